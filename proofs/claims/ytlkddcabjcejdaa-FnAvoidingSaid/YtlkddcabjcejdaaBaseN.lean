/- All choices of places. No condition. -/
import Derived.Test.YtlkddcabjcejdaaBase
import Derived.Test.YtlkddcabjcejdaaBaseP
namespace Go.Proofs.Ytlkddcabjcejdaa.Base
open Go.RowKit Go.Proofs.YtlkddcabjcejdaaW.PrintWords
set_option linter.unusedVariables false
set_option linter.unusedSimpArgs false
def chL (n many : Nat) : Nat → List Int → List (List Int)
  | 0, _ => []
  | r + 1, done => (if done.length + 1 = many then [done ++ [((n - (r + 1) : Nat) : Int)]] else chL n many r (done ++ [((n - (r + 1) : Nat) : Int)])) ++ chL n many r done
def chA (n many r : Nat) (done : List Int) : List (List Int) := if done.length = many then [done] else chL n many r done
theorem chL_succ (n many r : Nat) (done : List Int) : chL n many (r + 1) done = chA n many r (done ++ [((n - (r + 1) : Nat) : Int)]) ++ chL n many r done := by
  simp only [chL, chA, List.length_append, List.length_cons, List.length_nil]
theorem chL_length (n many : Nat) : ∀ (r : Nat) (done : List Int), (chL n many r done).length + 1 ≤ 2 ^ r := by
  intro r
  induction r with
  | zero => intro done; simp [chL]
  | succ r ih =>
    intro done
    rw [chL_succ, List.length_append, Nat.pow_succ]
    have h1 := ih done
    have h2 := ih (done ++ [((n - (r + 1) : Nat) : Int)])
    have h3 : (chA n many r (done ++ [((n - (r + 1) : Nat) : Int)])).length ≤ 2 ^ r := by
      unfold chA
      split
      · simp only [List.length_cons, List.length_nil]; exact Nat.one_le_two_pow
      · omega
    omega
theorem chL_bound (n many r : Nat) (done : List Int) (h : r ≤ 7) : (chL n many r done).length ≤ 128 := by
  have h1 := chL_length n many r done
  have h2 : 2 ^ r ≤ 2 ^ 7 := Nat.pow_le_pow_right (by decide) h
  omega
theorem chA_bound (n many r : Nat) (done : List Int) (h : r ≤ 7) : (chA n many r done).length ≤ 128 := by
  unfold chA
  split
  · simp
  · exact chL_bound n many r done h
/-- Each choice has its length, and its places are places. -/
theorem ch_mem (n many : Nat) : ∀ (r : Nat) (done xs : List Int), r ≤ n → (∀ x ∈ done, 0 ≤ x ∧ x < (n : Int)) → xs ∈ chL n many r done → xs.length = many ∧ ∀ x ∈ xs, 0 ≤ x ∧ x < (n : Int) := by
  intro r
  induction r with
  | zero => intro done xs _ _ h; cases h
  | succ r ih =>
    intro done xs hr hd h
    have hd2 : ∀ x ∈ done ++ [((n - (r + 1) : Nat) : Int)], 0 ≤ x ∧ x < (n : Int) := by
      intro x hx
      rcases List.mem_append.1 hx with hx | hx
      · exact hd x hx
      · have := List.mem_singleton.1 hx; omega
    rw [chL_succ] at h
    rcases List.mem_append.1 h with h | h
    · unfold chA at h
      split at h
      · have := List.mem_singleton.1 h; subst this; exact ⟨‹_›, hd2⟩
      · exact ih _ xs (by omega) hd2 h
    · exact ih done xs (by omega) hd h
theorem chA_mem (n many : Nat) (xs : List Int) (h : xs ∈ chA n many n []) : xs.length = many ∧ ∀ x ∈ xs, 0 ≤ x ∧ x < (n : Int) := by
  unfold chA at h
  split at h
  · have := List.mem_singleton.1 h; subst this; exact ⟨‹_›, by simp⟩
  · exact ch_mem n many n [] xs (Nat.le_refl _) (by simp) h
end Go.Proofs.Ytlkddcabjcejdaa.Base
