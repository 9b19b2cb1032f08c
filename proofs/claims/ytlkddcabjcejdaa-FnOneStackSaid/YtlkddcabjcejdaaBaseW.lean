/- All words, as the functions on words tell them. No condition. -/
import Derived.Test.YtlkddcabjcejdaaBase
namespace Go.Proofs.Ytlkddcabjcejdaa.Base
open Go.RowKit Go.Proofs.YtlkddcabjcejdaaW.PrintWords
set_option linter.unusedVariables false
set_option linter.unusedSimpArgs false
/-- All ways in which a word can go on: r signs are left, a of them 'I' and b of them 'O'. -/
def wordsC : Nat → Nat → Nat → List (List Int)
  | 0, _, _ => [[]]
  | r + 1, a, b => (if a > 0 then (wordsC r (a - 1) b).map (73 :: ·) else []) ++ (if b > a then (wordsC r a (b - 1)).map (79 :: ·) else [])
theorem wordsC_length : ∀ (r a b : Nat), (wordsC r a b).length ≤ 2 ^ r := by
  intro r
  induction r with
  | zero => intro a b; simp [wordsC]
  | succ r ih =>
    intro a b
    simp only [wordsC, List.length_append]
    have h1 := ih (a - 1) b
    have h2 := ih a (b - 1)
    have h3 : (2 : Nat) ^ (r + 1) = 2 ^ r + 2 ^ r := by rw [Nat.pow_succ]; omega
    split <;> split <;> simp <;> omega
def wordsR (n : Int) : List ByteArray × Bool := if 1 ≤ n ∧ n ≤ 7 then ((wordsC (n.toNat + n.toNat) n.toNat n.toNat).map strOfNums, true) else ([], false)
theorem wordsR_length (n : Int) : (wordsR n).1.length ≤ 16384 := by
  unfold wordsR
  split
  · rename_i h
    have h1 := wordsC_length (n.toNat + n.toNat) n.toNat n.toNat
    have h2 : (2 : Nat) ^ (n.toNat + n.toNat) ≤ 2 ^ 14 := Nat.pow_le_pow_right (by omega) (by omega)
    have h3 : (2 : Nat) ^ 14 = 16384 := by decide
    simp only [List.length_map]; omega
  · simp
theorem wGo_mem : ∀ (s : List Int) (d : Nat), wGo s (d : Int) = true → ∃ a b : Nat, s.length = a + b ∧ b = a + d ∧ s ∈ wordsC (a + b) a b := by
  intro s
  induction s with
  | nil => intro d h; simp [wGo] at h; subst h; exact ⟨0, 0, rfl, rfl, by simp [wordsC]⟩
  | cons c s ih =>
    intro d h
    simp only [wGo] at h
    split at h
    · rename_i hc
      subst hc
      obtain ⟨a, b, h1, h2, h3⟩ := ih (d + 1) (by simpa using h)
      refine ⟨a + 1, b, by simp; omega, by omega, ?_⟩
      rw [show a + 1 + b = (a + b) + 1 by omega]
      simp only [wordsC]
      rw [if_pos (by omega)]
      simp only [List.mem_append, List.mem_map, Nat.add_sub_cancel]
      exact .inl ⟨s, h3, rfl⟩
    · split at h
      · rename_i hc
        subst hc
        split at h
        · obtain ⟨a, b, h1, h2, h3⟩ := ih (d - 1) (by rw [show ((d - 1 : Nat) : Int) = (d : Int) - 1 by omega]; exact h)
          refine ⟨a, b + 1, by simp; omega, by omega, ?_⟩
          rw [show a + (b + 1) = (a + b) + 1 by omega]
          simp only [wordsC]
          simp only [List.mem_append]
          right
          rw [if_pos (by omega)]
          simp only [List.mem_map, Nat.add_sub_cancel]
          exact ⟨s, h3, rfl⟩
        · cases h
      · cases h
theorem isWd_mem {w : List Int} (h : isWd w = true) : ∃ n : Nat, 1 ≤ n ∧ n ≤ 7 ∧ w.length = n + n ∧ w ∈ wordsC (n + n) n n := by
  obtain ⟨h1, h2⟩ := (isWd_iff w).1 h
  obtain ⟨a, b, e1, e2, e3⟩ := wGo_mem w 0 h2
  have : b = a := by omega
  subst this
  exact ⟨b, by omega, by omega, e1, e3⟩
theorem str_bytes (s : ByteArray) : strOfNums (bytesOf s) = s := by
  apply ByteArray.ext
  simp only [strOfNums, bytesOf, List.map_map]
  apply Array.ext'
  simp only
  conv => rhs; rw [← List.map_id s.data.toList]
  apply List.map_congr_left
  intro b hb
  simp
/-- What comes out of numbers by a word: the numbers that wait, the stack (its top first), what has come out (the last one first). -/
def runGo : List Int → List Int → List Int → List Int → List Int
  | [], _, _, out => out.reverse
  | c :: w, order, st, out => if c = 73 then runGo w order.tail (order.headD 0 :: st) out else runGo w order st.tail (st.headD 0 :: out)
def runL (order w : List Int) : List Int := runGo w order [] []
def sortedL (n : Nat) : List Int := iota 1 n
def ordWd (w : List Int) : List Int := inv (runL (sortedL (w.length / 2)) w)
def ordWdR (w : ByteArray) : List Int × Bool := onWd w [] (ordWd (bytesOf w))
end Go.Proofs.Ytlkddcabjcejdaa.Base
