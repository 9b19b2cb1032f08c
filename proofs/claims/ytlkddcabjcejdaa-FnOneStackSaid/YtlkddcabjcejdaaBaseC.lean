/- How many words go on, the word with a rank, the rank of a word. No condition. -/
import Derived.Test.YtlkddcabjcejdaaBase
namespace Go.Proofs.Ytlkddcabjcejdaa.Base
open Go.RowKit Go.Proofs.YtlkddcabjcejdaaW.PrintWords
set_option linter.unusedVariables false
set_option linter.unusedSimpArgs false
/-- In how many ways a word can go on: r signs are left, a of them 'I' and b of them 'O'. -/
def cw : Nat → Nat → Nat → Nat
  | 0, _, _ => 1
  | r + 1, a, b => (if a > 0 then cw r (a - 1) b else 0) + (if b > a then cw r a (b - 1) else 0)
theorem cw_le : ∀ (r a b : Nat), cw r a b ≤ 2 ^ r := by
  intro r
  induction r with
  | zero => intro a b; simp [cw]
  | succ r ih =>
    intro a b
    simp only [cw]
    have h1 := ih (a - 1) b
    have h2 := ih a (b - 1)
    have h3 : (2 : Nat) ^ (r + 1) = 2 ^ r + 2 ^ r := by rw [Nat.pow_succ]; omega
    split <;> split <;> omega
theorem cw_bound {r a b : Nat} (h : r ≤ 14) : cw r a b ≤ 16384 := by
  have h1 := cw_le r a b
  have h2 : (2 : Nat) ^ r ≤ 2 ^ 14 := Nat.pow_le_pow_right (by omega) h
  have h3 : (2 : Nat) ^ 14 = 16384 := by decide
  omega
theorem cw_zero : ∀ (b : Nat), cw b 0 b = 1 := by
  intro b
  induction b with
  | zero => rfl
  | succ b ih => simp [cw, ih]
/-- What the reference's table holds. -/
def endsT (i j : Nat) : Nat := if i ≤ j ∧ (j - i) % 2 = 0 then cw j ((j - i) / 2) ((j + i) / 2) else 0
def rankGo : List Int → Nat → Nat → Nat → Nat
  | [], _, _, acc => acc
  | c :: s, a, b, acc => if c = 73 then rankGo s (a - 1) b acc else rankGo s a (b - 1) (acc + (if a > 0 then cw (a + b - 1) (a - 1) b else 0))
def rankWR (w : ByteArray) : Int × Bool := onWd w 0 ((rankGo (bytesOf w) (w.size / 2) (w.size / 2) 0 : Nat) : Int)
def wordAtGo : Nat → Nat → Nat → Nat → List Int
  | 0, _, _, _ => []
  | r + 1, a, b, k => if k < (if a > 0 then cw r (a - 1) b else 0) then 73 :: wordAtGo r (a - 1) b k else 79 :: wordAtGo r a (b - 1) (k - (if a > 0 then cw r (a - 1) b else 0))
def wordAtR (n k : Int) : ByteArray × Bool := if 1 ≤ n ∧ n ≤ 7 ∧ 0 ≤ k ∧ k < (cw (n.toNat + n.toNat) n.toNat n.toNat : Int) then (strOfNums (wordAtGo (n.toNat + n.toNat) n.toNat n.toNat k.toNat), true) else ((⟨#[]⟩ : ByteArray), false)
end Go.Proofs.Ytlkddcabjcejdaa.Base
