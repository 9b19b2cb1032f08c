/- All orders, listed. No condition. -/
import Derived.Test.YtlkddcabjcejdaaBase
import Derived.Test.YtlkddcabjcejdaaBaseO
namespace Go.Proofs.Ytlkddcabjcejdaa.Base
open Go.RowKit Go.Proofs.YtlkddcabjcejdaaW.PrintWords
set_option linter.unusedVariables false
set_option linter.unusedSimpArgs false
def permsN : Nat → List Int → List (List Int)
  | 0, _ => [[]]
  | r + 1, av => av.flatMap (fun x => (permsN r (av.erase x)).map (fun s => x :: s))
theorem perm_mem : ∀ (l av : List Int), l.Perm av → l ∈ permsN av.length av := by
  intro l
  induction l with
  | nil =>
    intro av h
    have : av = [] := by simpa using h.symm.eq_nil
    subst this
    simp [permsN]
  | cons x s ih =>
    intro av h
    obtain ⟨h1, h2⟩ := List.cons_perm_iff_perm_erase.1 h
    have hl : av.length = s.length + 1 := by rw [← h.length_eq]; rfl
    have he : (av.erase x).length = s.length := h2.length_eq.symm
    rw [hl]
    simp only [permsN, List.mem_flatMap, List.mem_map]
    exact ⟨x, h1, s, by have := ih _ h2; rwa [he] at this, rfl⟩
def ordsN (n : Nat) : List (List Int) := permsN n (iota 1 n)
theorem ord_mem {l : List Int} (h : isOrd l = true) : l ∈ ordsN l.length := by
  have := perm_mem l (iota 1 l.length) (ord_perm h).symm
  rwa [iota_length] at this
/-- What holds of all listed orders holds of every order. -/
theorem ord_all (P : List Int → Bool) (h1 : (ordsN 1).all P = true) (h2 : (ordsN 2).all P = true) (h3 : (ordsN 3).all P = true) (h4 : (ordsN 4).all P = true) (h5 : (ordsN 5).all P = true) (h6 : (ordsN 6).all P = true) (h7 : (ordsN 7).all P = true) {l : List Int} (h : isOrd l = true) : P l = true := by
  have hm := ord_mem h
  have hl := ord_len h
  obtain e | e | e | e | e | e | e : l.length = 1 ∨ l.length = 2 ∨ l.length = 3 ∨ l.length = 4 ∨ l.length = 5 ∨ l.length = 6 ∨ l.length = 7 := by omega
  all_goals rw [e] at hm
  · exact List.all_eq_true.1 h1 l hm
  · exact List.all_eq_true.1 h2 l hm
  · exact List.all_eq_true.1 h3 l hm
  · exact List.all_eq_true.1 h4 l hm
  · exact List.all_eq_true.1 h5 l hm
  · exact List.all_eq_true.1 h6 l hm
  · exact List.all_eq_true.1 h7 l hm
/-- The orders of seven numbers, by the first one. -/
theorem ord7_all (P : List Int → Bool) (h1 : ((permsN 6 [2, 3, 4, 5, 6, 7]).map (fun s => (1 : Int) :: s)).all P = true) (h2 : ((permsN 6 [1, 3, 4, 5, 6, 7]).map (fun s => (2 : Int) :: s)).all P = true) (h3 : ((permsN 6 [1, 2, 4, 5, 6, 7]).map (fun s => (3 : Int) :: s)).all P = true) (h4 : ((permsN 6 [1, 2, 3, 5, 6, 7]).map (fun s => (4 : Int) :: s)).all P = true) (h5 : ((permsN 6 [1, 2, 3, 4, 6, 7]).map (fun s => (5 : Int) :: s)).all P = true) (h6 : ((permsN 6 [1, 2, 3, 4, 5, 7]).map (fun s => (6 : Int) :: s)).all P = true) (h7 : ((permsN 6 [1, 2, 3, 4, 5, 6]).map (fun s => (7 : Int) :: s)).all P = true) : (ordsN 7).all P = true := by
  have e : ordsN 7 = ((permsN 6 [2, 3, 4, 5, 6, 7]).map (fun s => (1 : Int) :: s)) ++ ((permsN 6 [1, 3, 4, 5, 6, 7]).map (fun s => (2 : Int) :: s)) ++ ((permsN 6 [1, 2, 4, 5, 6, 7]).map (fun s => (3 : Int) :: s)) ++ ((permsN 6 [1, 2, 3, 5, 6, 7]).map (fun s => (4 : Int) :: s)) ++ ((permsN 6 [1, 2, 3, 4, 6, 7]).map (fun s => (5 : Int) :: s)) ++ ((permsN 6 [1, 2, 3, 4, 5, 7]).map (fun s => (6 : Int) :: s)) ++ ((permsN 6 [1, 2, 3, 4, 5, 6]).map (fun s => (7 : Int) :: s)) := by
    show (iota 1 7).flatMap (fun x => (permsN 6 ((iota 1 7).erase x)).map (fun s => x :: s)) = _
    rw [show iota 1 7 = [1, 2, 3, 4, 5, 6, 7] from rfl]
    simp only [List.flatMap_cons, List.flatMap_nil, List.append_nil, List.append_assoc]
    rfl
  rw [e]
  simp only [List.all_append, h1, h2, h3, h4, h5, h6, h7, Bool.and_self]
/-- Sorted, looked at from the end: the list stands the last one first. -/
def srtR : List Int → Bool
  | a :: b :: t => if a < b then false else srtR (b :: t)
  | _ => true
end Go.Proofs.Ytlkddcabjcejdaa.Base
