/- Shapes: what has one shape has it piece by piece; the shape of an order is the order. No condition. -/
import Derived.Test.YtlkddcabjcejdaaBase
import Derived.Test.YtlkddcabjcejdaaBaseP
import Derived.Test.YtlkddcabjcejdaaBaseO
namespace Go.Proofs.Ytlkddcabjcejdaa.Base
open Go.RowKit Go.Proofs.YtlkddcabjcejdaaW.PrintWords
set_option linter.unusedVariables false
set_option linter.unusedSimpArgs false
theorem lessN_mono {x y : Int} (h : x ≤ y) : ∀ l : List Int, lessN x l ≤ lessN y l := by
  intro l
  induction l with
  | nil => exact Nat.le_refl _
  | cons c l ih =>
    rw [lessN_cons, lessN_cons]
    by_cases h1 : c < x
    · have h2 : c < y := by omega
      rw [if_pos h1, if_pos h2]; omega
    · rw [if_neg h1]; split <;> omega
theorem lessN_strict {x y : Int} (h : x < y) : ∀ l : List Int, x ∈ l → lessN x l < lessN y l := by
  intro l
  induction l with
  | nil => intro hx; cases hx
  | cons c l ih =>
    intro hx
    rw [lessN_cons, lessN_cons]
    by_cases hc : c = x
    · subst hc
      have := lessN_mono (Int.le_of_lt h) l
      rw [if_neg (by omega), if_pos h]; omega
    · have := ih (by rcases List.mem_cons.1 hx with e | e; exact absurd e.symm hc; exact e)
      by_cases h1 : c < x
      · rw [if_pos h1, if_pos (by omega)]; omega
      · rw [if_neg h1]; split <;> omega
theorem lessN_lt_iff {x y : Int} {l : List Int} (hx : x ∈ l) (hy : y ∈ l) : x < y ↔ lessN x l < lessN y l := by
  constructor
  · intro h; exact lessN_strict h l hx
  · intro h
    by_cases hc : x < y
    · exact hc
    · have := lessN_mono (show y ≤ x by omega) l; omega
/-- Two lists stand alike. -/
def AlikeL (a b : List Int) : Prop := a.length = b.length ∧ ∀ i j, i < a.length → j < a.length → (a.getD i 0 < a.getD j 0 ↔ b.getD i 0 < b.getD j 0)
theorem getD_mem {a : List Int} {i : Nat} (h : i < a.length) : a.getD i 0 ∈ a := by
  rw [List.getD_eq_getElem?_getD, List.getElem?_eq_getElem h]; simp
theorem shape_getD {a : List Int} {i : Nat} (h : i < a.length) : (shapeL a).getD i 0 = ((1 + lessN (a.getD i 0) a : Nat) : Int) := by
  unfold shapeL
  rw [List.getD_eq_getElem?_getD, List.getD_eq_getElem?_getD, List.getElem?_map, List.getElem?_eq_getElem h]; simp
theorem shape_length (a : List Int) : (shapeL a).length = a.length := by simp [shapeL]
theorem alike_of_shape {a b : List Int} (h : shapeL a = shapeL b) : AlikeL a b := by
  have hl : a.length = b.length := by rw [← shape_length a, h, shape_length]
  refine ⟨hl, fun i j hi hj => ?_⟩
  have e1 := shape_getD hi
  have e2 := shape_getD hj
  rw [h, shape_getD (by omega)] at e1 e2
  rw [lessN_lt_iff (getD_mem hi) (getD_mem hj), lessN_lt_iff (getD_mem (a := b) (by omega)) (getD_mem (a := b) (by omega))]
  omega
theorem lessN_alike : ∀ (a b : List Int) (x y : Int), a.length = b.length → (∀ j, j < a.length → (a.getD j 0 < x ↔ b.getD j 0 < y)) → lessN x a = lessN y b := by
  intro a
  induction a with
  | nil => intro b x y hl _; cases b with
    | nil => rfl
    | cons _ _ => simp at hl
  | cons c a ih =>
    intro b x y hl h
    cases b with
    | nil => simp at hl
    | cons d b =>
      have h0 := h 0 (by simp)
      simp only [List.getD_cons_zero] at h0
      have := ih b x y (by simpa using hl) (fun j hj => by have := h (j + 1) (by simp; omega); simpa using this)
      rw [lessN_cons, lessN_cons, this]
      by_cases hc : c < x
      · rw [if_pos hc, if_pos (h0.1 hc)]
      · rw [if_neg hc, if_neg (fun e => hc (h0.2 e))]
theorem shape_of_alike {a b : List Int} (h : AlikeL a b) : shapeL a = shapeL b := by
  refine List.ext_getElem (by rw [shape_length, shape_length, h.1]) (fun i h1 h2 => ?_)
  rw [shape_length] at h1 h2
  have e := lessN_alike a b (a.getD i 0) (b.getD i 0) h.1 (fun j hj => h.2 j i hj h1)
  have e1 := shape_getD h1
  have e2 := shape_getD h2
  rw [List.getD_eq_getElem?_getD, List.getElem?_eq_getElem (by rw [shape_length]; exact h1)] at e1
  rw [List.getD_eq_getElem?_getD, List.getElem?_eq_getElem (by rw [shape_length]; exact h2)] at e2
  simp only [Option.getD_some] at e1 e2
  rw [e1, e2, e]
theorem alike_take {a b : List Int} (h : AlikeL a b) (m : Nat) : AlikeL (a.take m) (b.take m) := by
  have hl := h.1
  refine ⟨by simp [hl], fun i j hi hj => ?_⟩
  simp only [List.length_take] at hi hj
  have e : ∀ (l : List Int) (k : Nat), k < m → (l.take m).getD k 0 = l.getD k 0 := fun l k hk => by
    rw [List.getD_eq_getElem?_getD, List.getD_eq_getElem?_getD, List.getElem?_take_of_lt hk]
  rw [e a i (by omega), e a j (by omega), e b i (by omega), e b j (by omega)]
  exact h.2 i j (by omega) (by omega)
theorem shape_take {a b : List Int} (h : shapeL a = shapeL b) (m : Nat) : shapeL (a.take m) = shapeL (b.take m) := shape_of_alike (alike_take (alike_of_shape h) m)
theorem lessN_iota : ∀ (n : Nat) (a x : Int), a ≤ x → x ≤ a + n → ((lessN x (iota a n) : Nat) : Int) = x - a := by
  intro n
  induction n with
  | zero => intro a x h1 h2; simp [iota, lessN]; omega
  | succ n ih =>
    intro a x h1 h2
    simp only [iota, lessN_cons]
    by_cases h : a < x
    · rw [if_pos h]; have := ih (a + 1) x (by omega) (by omega); omega
    · rw [if_neg h]
      obtain rfl : x = a := by omega
      have : lessN x (iota (x + 1) n) = 0 := by
        unfold lessN
        rw [List.countP_eq_zero]
        intro y hy
        have := (iota_mem n (x + 1) y).1 hy
        simp; omega
      rw [this]; omega
theorem shape_ord {p : List Int} (h : isOrd p = true) : shapeL p = p := by
  have e : ∀ x ∈ p, ((1 + lessN x p : Nat) : Int) = x := by
    intro x hx
    have h1 := ord_range h x hx
    have h2 := lessN_iota p.length 1 x (by omega) (by omega)
    rw [lessN_perm (ord_perm h)] at h2
    omega
  unfold shapeL
  exact (List.map_congr_left e).trans (by simp)
end Go.Proofs.Ytlkddcabjcejdaa.Base
