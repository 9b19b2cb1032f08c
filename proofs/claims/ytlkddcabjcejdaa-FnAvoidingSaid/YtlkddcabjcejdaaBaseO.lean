/- Factorials, ranks of orders, the order with a rank. No condition. -/
import Derived.Test.YtlkddcabjcejdaaBase
import Derived.Test.YtlkddcabjcejdaaBaseP
namespace Go.Proofs.Ytlkddcabjcejdaa.Base
open Go.RowKit Go.Proofs.YtlkddcabjcejdaaW.PrintWords
set_option linter.unusedVariables false
set_option linter.unusedSimpArgs false
def fac : Nat → Nat
  | 0 => 1
  | n + 1 => (n + 1) * fac n
theorem fac_pos : ∀ (n : Nat), 0 < fac n := by
  intro n
  induction n with
  | zero => decide
  | succ n ih => simp only [fac]; exact Nat.mul_pos (by omega) ih
theorem fac_le {n : Nat} (h : n ≤ 7) : fac n ≤ 5040 := by
  obtain rfl | rfl | rfl | rfl | rfl | rfl | rfl | rfl : n = 0 ∨ n = 1 ∨ n = 2 ∨ n = 3 ∨ n = 4 ∨ n = 5 ∨ n = 6 ∨ n = 7 := by omega
  all_goals decide
def rankL : List Int → Nat
  | [] => 0
  | c :: s => lessN c s * fac s.length + rankL s
theorem rankL_lt : ∀ (l : List Int), rankL l < fac l.length := by
  intro l
  induction l with
  | nil => decide
  | cons c s ih =>
    have h := lessN_le c s
    simp only [rankL, List.length_cons, fac]
    have h2 : lessN c s * fac s.length ≤ s.length * fac s.length := Nat.mul_le_mul_right _ h
    rw [Nat.add_mul, Nat.one_mul]
    omega
def rankR (l : List Int) : Int × Bool := onOrd l 0 ((rankL l : Nat) : Int)
/-- In a list that ascends, as many numbers are less as stand ahead. -/
theorem idx_sorted (x : Int) : ∀ (l : List Int), l.Pairwise (· < ·) → x ∈ l → l.idxOf x = lessN x l := by
  intro l
  induction l with
  | nil => intro _ h; cases h
  | cons c s ih =>
    intro hp hx
    rw [List.pairwise_cons] at hp
    rw [lessN_cons, List.idxOf_cons]
    by_cases hc : c = x
    · subst hc
      have : lessN c s = 0 := by
        unfold lessN
        rw [List.countP_eq_zero]
        intro y hy
        have := hp.1 y hy
        simp; omega
      simp [this]
    · have hx' : x ∈ s := by
        rcases List.mem_cons.1 hx with h | h
        · exact absurd h.symm hc
        · exact h
      have h1 := hp.1 x hx'
      have hb : (c == x) = false := by simpa using hc
      rw [hb, if_pos h1, ih hp.2 hx']
      simp; omega
theorem lessN_perm {x : Int} {a b : List Int} (h : a.Perm b) : lessN x a = lessN x b := h.countP_eq _
theorem take_drop_erase (l : List Int) (i : Nat) : l.take i ++ l.drop (i + 1) = l.eraseIdx i := (List.eraseIdx_eq_take_drop_succ l i).symm
theorem erase_idx (l : List Int) (x : Int) (h : x ∈ l) : l.eraseIdx (l.idxOf x) = l.erase x := by
  rw [List.erase_eq_eraseIdx_of_idxOf rfl]
theorem iota_mem : ∀ (n : Nat) (a x : Int), x ∈ iota a n ↔ a ≤ x ∧ x < a + n := by
  intro n
  induction n with
  | zero => intro a x; simp only [iota, List.not_mem_nil, false_iff]; omega
  | succ n ih => intro a x; simp only [iota, List.mem_cons, ih]; omega
theorem iota_sorted : ∀ (n : Nat) (a : Int), (iota a n).Pairwise (· < ·) := by
  intro n
  induction n with
  | zero => intro a; simp [iota]
  | succ n ih =>
    intro a
    simp only [iota, List.pairwise_cons]
    refine ⟨fun x hx => ?_, ih _⟩
    have := (iota_mem n (a + 1) x).1 hx
    omega
theorem perm_of_subset : ∀ (a b : List Int), a.Nodup → (∀ x ∈ a, x ∈ b) → a.length = b.length → a.Perm b := by
  intro a
  induction a with
  | nil => intro b _ _ hl; cases b with
    | nil => exact List.Perm.nil
    | cons _ _ => simp at hl
  | cons c s ih =>
    intro b hn hs hl
    rw [List.nodup_cons] at hn
    have hc : c ∈ b := hs c (List.mem_cons_self ..)
    have hp := List.perm_cons_erase hc
    refine List.Perm.trans (List.Perm.cons c (ih (b.erase c) hn.2 ?_ ?_)) hp.symm
    · intro x hx
      have hne : x ≠ c := fun h => hn.1 (h ▸ hx)
      exact (List.mem_erase_of_ne hne).2 (hs x (List.mem_cons_of_mem _ hx))
    · rw [List.length_erase_of_mem hc, ← hl]; simp
/-- An order is the sorted one, in another sequence. -/
theorem ord_perm {l : List Int} (h : isOrd l = true) : (iota 1 l.length).Perm l := by
  refine (perm_of_subset l (iota 1 l.length) (ord_nodup h) ?_ (by rw [iota_length])).symm
  intro x hx
  have := ord_range h x hx
  rw [iota_mem]; omega
/-- The order with a rank: left are the numbers that are left. -/
def atGo : Nat → List Int → Nat → List Int
  | 0, _, _ => []
  | r + 1, left, k => left.getD (k / fac r) 0 :: atGo r (left.eraseIdx (k / fac r)) (k % fac r)
def orderAtL (n k : Nat) : List Int := atGo n (iota 1 n) k
def orderAtR (n k : Int) : List Int × Bool := if 1 ≤ n ∧ n ≤ 7 ∧ 0 ≤ k ∧ k < (fac n.toNat : Int) then (orderAtL n.toNat k.toNat, true) else ([], false)
theorem atGo_length : ∀ (r : Nat) (left : List Int) (k : Nat), (atGo r left k).length = r := by
  intro r
  induction r with
  | zero => intro l k; rfl
  | succ r ih => intro l k; simp [atGo, ih]
end Go.Proofs.Ytlkddcabjcejdaa.Base
