/- Ways into queues. No condition. -/
import Derived.Test.YtcocnmolojcoaaaBase
import Derived.Test.YtcocnmolojcoaaaBaseP
namespace Go.Proofs.Ytcocnmolojcoaaa.Base
open Go.RowKit Go.Proofs.YtcocnmolojcoaaaW.PrintWords
set_option linter.unusedVariables false
set_option linter.unusedSimpArgs false
def qsum (f : List Int → Nat) (x : Int) : List Int → List Int → Nat
  | _, [] => 0
  | pre, c :: t => (if c < x then f (pre ++ x :: t) else 0) + qsum f x (pre ++ [c]) t
def qways : List Int → List Int → Nat
  | [], _ => 1
  | x :: s, last => qsum (qways s) x [] last
theorem qsum_le (f : List Int → Nat) (x : Int) (n B : Nat) (hf : ∀ l : List Int, l.length = n → f l ≤ B) : ∀ (t pre : List Int), pre.length + t.length = n → qsum f x pre t ≤ t.length * B := by
  intro t
  induction t with
  | nil => intro pre h; simp [qsum]
  | cons c t ih =>
    intro pre h
    have h1 := ih (pre ++ [c]) (by simp at h ⊢; omega)
    have h2 := hf (pre ++ x :: t) (by simpa using h)
    simp only [qsum, List.length_cons, Nat.add_mul, Nat.one_mul]
    split <;> omega
theorem qways_le : ∀ (s last : List Int), last.length ≤ 4 → qways s last ≤ 4 ^ s.length := by
  intro s
  induction s with
  | nil => intro last h; simp [qways]
  | cons x s ih =>
    intro last h
    have := qsum_le (qways s) x last.length (4 ^ s.length) (fun l hl => ih l (by omega)) last [] (by simp)
    simp only [qways, List.length_cons, Nat.pow_succ]
    exact Nat.le_trans this (by rw [Nat.mul_comm]; exact Nat.mul_le_mul_left _ h)
theorem qways_bound (s last : List Int) (h : last.length ≤ 4) (hs : s.length ≤ 7) : qways s last ≤ 16384 := Nat.le_trans (qways_le s last h) (Nat.le_trans (Nat.pow_le_pow_right (by decide) hs) (by decide))
def qwaysR (l : List Int) (m : Int) : Int × Bool := if isOrd l = true ∧ 1 ≤ m ∧ m ≤ 4 then (((qways l (List.replicate m.toNat 0) : Nat) : Int), true) else (0, false)
end Go.Proofs.Ytcocnmolojcoaaa.Base
