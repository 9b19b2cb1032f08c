/- Shapes, blocks, orders with a number more: what the functions on patterns tell. No condition. -/
import Derived.Test.YtlkddcabjcejdaaBase
namespace Go.Proofs.Ytlkddcabjcejdaa.Base
open Go.RowKit Go.Proofs.YtlkddcabjcejdaaW.PrintWords
set_option linter.unusedVariables false
set_option linter.unusedSimpArgs false
/-- How many numbers of a list are less. -/
def lessN (x : Int) (l : List Int) : Nat := l.countP (fun y => decide (y < x))
theorem lessN_le (x : Int) (l : List Int) : lessN x l ≤ l.length := List.countP_le_length
theorem lessN_cons (x y : Int) (l : List Int) : lessN x (y :: l) = (if y < x then 1 else 0) + lessN x l := by
  unfold lessN
  rw [List.countP_cons]
  by_cases h : y < x <;> simp [h] <;> omega
def shapeL (l : List Int) : List Int := l.map (fun x => ((1 + lessN x l : Nat) : Int))
def distGo : List Int → List Int → Bool
  | _, [] => true
  | pre, c :: s => if c ∈ pre then false else distGo (pre ++ [c]) s
theorem distGo_iff : ∀ (suf pre : List Int), pre.Nodup → (distGo pre suf = true ↔ (pre ++ suf).Nodup) := by
  intro suf
  induction suf with
  | nil => intro pre hp; simp [distGo, hp]
  | cons c suf ih =>
    intro pre hp
    simp only [distGo]
    by_cases h : c ∈ pre
    · rw [if_pos h]
      simp only [Bool.false_eq_true, false_iff]
      intro h2
      rw [List.nodup_append] at h2
      exact h2.2.2 c h c (by simp) rfl
    · rw [if_neg h, ih (pre ++ [c]) (by rw [List.nodup_append]; exact ⟨hp, by simp, fun a ha b hb => by simp at hb; subst hb; exact fun e => h (e ▸ ha)⟩)]
      simp
def isList (l : List Int) : Bool := decide (1 ≤ l.length) && decide (l.length ≤ 7) && distGo [] l
theorem isList_iff (l : List Int) : isList l = true ↔ (1 ≤ l.length ∧ l.length ≤ 7) ∧ l.Nodup := by
  unfold isList
  have := distGo_iff l [] (by simp)
  simp only [List.nil_append] at this
  simp [this]
def shapeR (l : List Int) : List Int × Bool := if isList l = true then (shapeL l, true) else ([], false)
def insertL (l : List Int) (k : Int) : List Int := l.map (fun n => if n ≥ k then n + 1 else n) ++ [k]
def insertR (l : List Int) (k : Int) : List Int × Bool := if isOrd l = true ∧ l.length ≠ 7 ∧ 1 ≤ k ∧ k ≤ (l.length : Int) + 1 then (insertL l k, true) else ([], false)
def blockGo : List Int → Int → Int → Int → List Int
  | [], _, _, _ => []
  | c :: s, i, f, m => if mx m c = i + 1 then (i + 1 - f) :: blockGo s (i + 1) (i + 1) (mx m c) else blockGo s (i + 1) f (mx m c)
theorem blockGo_length : ∀ (s : List Int) (i f m : Int), (blockGo s i f m).length ≤ s.length := by
  intro s
  induction s with
  | nil => intro i f m; simp [blockGo]
  | cons c s ih =>
    intro i f m
    simp only [blockGo]
    split
    · have := ih (i + 1) (i + 1) (mx m c); simp only [List.length_cons]; omega
    · have := ih (i + 1) f (mx m c); simp only [List.length_cons]; omega
def blocksR (l : List Int) : List Int × Bool := onOrd l [] (blockGo l 0 0 0)
end Go.Proofs.Ytlkddcabjcejdaa.Base
