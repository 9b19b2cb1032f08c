/- Rows of slices of one's own made thin: what slices.CompactFunc's loops know. No condition. -/
import Derived.Test.YtlkddcabjcejdaaBase
import Derived.Test.YtlkddcabjcejdaaBaseD
namespace Go.Proofs.Ytlkddcabjcejdaa.Base
open Go.RowKit Go.Proofs.YtlkddcabjcejdaaW.PrintWords Go.Proofs.YtlkddcabjcejdaaW.PrintLast Go.Proofs.YtlkddcabjcejdaaW.PrintMore
set_option linter.unusedVariables false
set_option linter.unusedSimpArgs false
/-- Those that are not as the one before. -/
def thinG (p : List Int) : List (List Int) → List (List Int)
  | [] => []
  | c :: s => if c = p then thinG c s else c :: thinG c s
def compactG : List (List Int) → List (List Int)
  | [] => []
  | c :: s => c :: thinG c s
def thinP (p : List Int) : List (Value × List Int) → List (Value × List Int)
  | [] => []
  | c :: s => if c.2 = p then thinP c.2 s else c :: thinP c.2 s
def compactP : List (Value × List Int) → List (Value × List Int)
  | [] => []
  | c :: s => c :: thinP c.2 s
theorem thinP_map : ∀ (s : List (Value × List Int)) (p : List Int), (thinP p s).map (·.2) = thinG p (s.map (·.2)) := by
  intro s
  induction s with
  | nil => intro p; rfl
  | cons c s ih =>
    intro p
    simp only [thinP, List.map_cons, thinG]
    by_cases h : c.2 = p
    · rw [if_pos h, if_pos h, ih]
    · rw [if_neg h, if_neg h, List.map_cons, ih]
theorem compactP_map (s : List (Value × List Int)) : (compactP s).map (·.2) = compactG (s.map (·.2)) := by
  cases s with
  | nil => rfl
  | cons c s => simp only [compactP, compactG, List.map_cons, thinP_map]
theorem thinP_sub : ∀ (s : List (Value × List Int)) (p : List Int), (thinP p s).Sublist s := by
  intro s
  induction s with
  | nil => intro p; exact List.Sublist.refl _
  | cons c s ih =>
    intro p
    simp only [thinP]
    by_cases h : c.2 = p
    · rw [if_pos h]; exact (ih _).cons _
    · rw [if_neg h]; exact (ih _).cons_cons _
theorem compactP_sub (s : List (Value × List Int)) : (compactP s).Sublist s := by
  cases s with
  | nil => exact List.Sublist.refl _
  | cons c s => exact (thinP_sub s _).cons_cons _
theorem thinP_snoc : ∀ (l : List (Value × List Int)) (p : List Int) (a c : Value × List Int), thinP p (l ++ [a] ++ [c]) = thinP p (l ++ [a]) ++ (if c.2 = a.2 then [] else [c]) := by
  intro l
  induction l with
  | nil =>
    intro p a c
    simp only [List.nil_append, List.cons_append, thinP]
    by_cases h : a.2 = p
    · by_cases h2 : c.2 = a.2
      · simp [h, h2]
      · simp [h, h2]
    · by_cases h2 : c.2 = a.2 <;> simp [h, h2]
  | cons x l ih =>
    intro p a c
    simp only [List.cons_append, thinP]
    have := ih x.2 a c
    by_cases h : x.2 = p
    · rw [if_pos h, if_pos h, this]
    · rw [if_neg h, if_neg h, this]; rfl
theorem compactP_snoc (l : List (Value × List Int)) (a c : Value × List Int) : compactP (l ++ [a] ++ [c]) = compactP (l ++ [a]) ++ (if c.2 = a.2 then [] else [c]) := by
  cases l with
  | nil =>
    simp only [List.nil_append, List.cons_append, compactP, thinP]
  | cons x l =>
    simp only [List.cons_append, compactP]
    rw [thinP_snoc]
/-- The first loop: no two side by side are alike yet. -/
structure CI1 (ps pre : List (Value × List Int)) (last : Value × List Int) (suf : List (Value × List Int)) : Prop where
  all : ps = pre ++ last :: suf
  same : compactP (pre ++ [last]) = pre ++ [last]
/-- The second loop. -/
structure CI (cap : Nat) (ps : List (Value × List Int)) (cs : List Value) (pre : List (Value × List Int)) (last : Value × List Int) (suf : List (Value × List Int)) (i : Nat) : Prop where
  all : ps = pre ++ last :: suf
  len : cs.length = cap
  le : ps.length ≤ cap
  ki : (compactP (pre ++ [last])).length = i
  head : cs.take i = (compactP (pre ++ [last])).map (·.1)
  tail : (cs.drop pre.length).take (suf.length + 1) = (last :: suf).map (·.1)
  lt : i ≤ pre.length
theorem CI1.start {ps : List (Value × List Int)} {c : Value × List Int} {s : List (Value × List Int)} (h : ps = c :: s) : CI1 ps [] c s := ⟨h, rfl⟩
theorem CI1.step {ps pre : List (Value × List Int)} {last c : Value × List Int} {s : List (Value × List Int)} (h : CI1 ps pre last (c :: s)) (hne : c.2 ≠ last.2) : CI1 ps (pre ++ [last]) c s :=
  ⟨by rw [h.all]; simp, by rw [compactP_snoc, h.same, if_neg hne]⟩
theorem CI1.turn {cap : Nat} {ps pre : List (Value × List Int)} {cs : List Value} {last c : Value × List Int} {s : List (Value × List Int)} (h : CI1 ps pre last (c :: s)) (he : c.2 = last.2) (hc : cs.length = cap) (hle : ps.length ≤ cap) (ht : cs.take ps.length = ps.map (·.1)) : CI cap ps cs (pre ++ [last]) c s (pre.length + 1) := by
  have hall : ps = (pre ++ [last]) ++ c :: s := by rw [h.all]; simp
  have e1 : compactP (pre ++ [last] ++ [c]) = pre ++ [last] := by rw [compactP_snoc, h.same, if_pos he, List.append_nil]
  have hl : ps.length = (pre.length + 1) + (s.length + 1) := by rw [hall]; simp; omega
  refine ⟨hall, hc, hle, by rw [e1]; simp, ?_, ?_, by simp⟩
  · rw [e1]
    have := congrArg (List.take (pre.length + 1)) ht
    rw [List.take_take, show min (pre.length + 1) ps.length = pre.length + 1 by omega] at this
    rw [this, hall, List.map_append]
    exact List.take_left' (by simp)
  · have := congrArg (List.drop (pre.length + 1)) ht
    rw [List.drop_take] at this
    rw [show (pre ++ [last]).length = pre.length + 1 by simp, show s.length + 1 = ps.length - (pre.length + 1) by omega, this, hall, List.map_append]
    exact List.drop_left' (by simp)
theorem CI.skip {cap i : Nat} {ps pre s : List (Value × List Int)} {cs : List Value} {last c : Value × List Int} (h : CI cap ps cs pre last (c :: s) i) (he : c.2 = last.2) : CI cap ps cs (pre ++ [last]) c s i := by
  have e1 : compactP (pre ++ [last] ++ [c]) = compactP (pre ++ [last]) := by rw [compactP_snoc, if_pos he, List.append_nil]
  have ht := congrArg (List.drop 1) h.tail
  refine ⟨by rw [h.all]; simp, h.len, h.le, by rw [e1]; exact h.ki, by rw [e1]; exact h.head, ?_, by have := h.lt; simp; omega⟩
  rw [List.drop_take] at ht
  simpa [List.drop_drop] using ht
theorem CI.bound {cap i : Nat} {ps pre s : List (Value × List Int)} {cs : List Value} {last : Value × List Int} (h : CI cap ps cs pre last s i) : ps.length = pre.length + s.length + 1 := by
  have h2 := congrArg List.length h.all
  simp at h2; omega
theorem CI.keep {cap i : Nat} {ps pre s : List (Value × List Int)} {cs : List Value} {last c : Value × List Int} (h : CI cap ps cs pre last (c :: s) i) (he : c.2 ≠ last.2) : CI cap ps (cs.set i c.1) (pre ++ [last]) c s (i + 1) := by
  have e1 : compactP (pre ++ [last] ++ [c]) = compactP (pre ++ [last]) ++ [c] := by rw [compactP_snoc, if_neg he]
  have hb := h.bound
  have hlt := h.lt
  have hle := h.le
  have hlen := h.len
  simp only [List.length_cons] at hb
  have hl : i < cs.length := by omega
  have ht := congrArg (List.drop 1) h.tail
  refine ⟨by rw [h.all]; simp, by simpa using h.len, h.le, by rw [e1]; simp [h.ki], by rw [e1, take_set_same cs i c.1 hl, h.head]; simp, ?_, by simp; omega⟩
  rw [List.drop_take] at ht
  rw [List.length_append, List.length_singleton, drop_set_lt _ _ _ _ (by omega)]
  simpa [List.drop_drop] using ht
theorem CI.cell0 {cap i : Nat} {ps pre s : List (Value × List Int)} {cs : List Value} {last : Value × List Int} (h : CI cap ps cs pre last s i) : cs[pre.length]? = some last.1 := by
  have ht := congrArg (fun l => l[0]?) h.tail
  simpa using ht
theorem CI.cell1 {cap i : Nat} {ps pre s : List (Value × List Int)} {cs : List Value} {last c : Value × List Int} (h : CI cap ps cs pre last (c :: s) i) : cs[pre.length + 1]? = some c.1 := by
  have ht := congrArg (fun l => l[1]?) h.tail
  simpa [List.getElem?_take] using ht
theorem compactP_nil_end {ps pre : List (Value × List Int)} {last : Value × List Int} (h : CI1 ps pre last []) : compactP ps = ps := by
  have := h.all
  rw [this]; exact h.same
end Go.Proofs.Ytlkddcabjcejdaa.Base
