/- Inversions; what comes out by a word. No condition. -/
import Derived.Test.YtlkddcabjcejdaaBase
import Derived.Test.YtlkddcabjcejdaaBaseW
namespace Go.Proofs.Ytlkddcabjcejdaa.Base
open Go.RowKit Go.Proofs.YtlkddcabjcejdaaW.PrintWords
set_option linter.unusedVariables false
set_option linter.unusedSimpArgs false
def invC : List Int → Nat
  | [] => 0
  | c :: s => s.countP (fun y => decide (c > y)) + invC s
theorem invC_snoc (c : Int) : ∀ (p : List Int), invC (p ++ [c]) = invC p + p.countP (fun y => decide (y > c)) := by
  intro p
  induction p with
  | nil => simp [invC]
  | cons x p ih =>
    simp only [List.cons_append, invC, List.countP_append, List.countP_cons, List.countP_nil, ih]
    omega
theorem invC_le : ∀ (l : List Int), invC l ≤ l.length * l.length := by
  intro l
  induction l with
  | nil => simp [invC]
  | cons c s ih =>
    simp only [invC, List.length_cons]
    have h1 : s.countP (fun y => decide (c > y)) ≤ s.length := List.countP_le_length
    have h2 : (s.length + 1) * (s.length + 1) = s.length * s.length + s.length + s.length + 1 := by
      rw [Nat.add_mul, Nat.mul_add, Nat.one_mul, Nat.mul_one]; omega
    omega
def invcR (l : List Int) : Int × Bool := onOrd l 0 ((invC l : Nat) : Int)
theorem wGo_len (s : List Int) : ∀ (d : Int), 0 ≤ d → wGo s d = true → d ≤ s.length := by
  induction s with
  | nil => intro d h0 h; simp [wGo] at h; simp; omega
  | cons c s ih =>
    intro d h0 h
    simp only [wGo] at h
    simp only [List.length_cons]
    split at h
    · have := ih _ (by omega) h; omega
    · split at h
      · split at h
        · have := ih _ (by omega) h; omega
        · cases h
      · cases h
def runR (l : List Int) (w : ByteArray) : List Int × Bool := if isOrd l = true ∧ isWd (bytesOf w) = true ∧ w.size = 2 * l.length then (runL l (bytesOf w), true) else ([], false)
theorem runGo_length : ∀ (w order st out : List Int), (runGo w order st out).length ≤ out.length + w.length := by
  intro w
  induction w with
  | nil => intro o s t; simp [runGo]
  | cons c w ih =>
    intro o s t
    simp only [runGo]
    split
    · have := ih o.tail (o.headD 0 :: s) t; simp only [List.length_cons]; omega
    · have := ih o s.tail (s.headD 0 :: t); simp only [List.length_cons] at this ⊢; omega
theorem top_rev (x : Int) (st : List Int) : rd (x :: st).reverse (((x :: st).reverse.length : Int) - 1) = x := by
  simp [rd]
theorem pop_rev (x : Int) (st : List Int) : (x :: st).reverse.take (((x :: st).reverse.length : Int) - 1).toNat = st.reverse := by
  simp
end Go.Proofs.Ytlkddcabjcejdaa.Base
