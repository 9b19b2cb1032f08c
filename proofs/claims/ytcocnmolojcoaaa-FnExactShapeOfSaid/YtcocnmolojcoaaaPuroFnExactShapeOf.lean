/- The pure statement of FnExactShapeOf: program and reference tell the same list. No condition. -/
import Derived.Test.YtcocnmolojcoaaaMFnExactShapeOfx3
import Derived.Test.YtcocnmolojcoaaaBase
import Derived.Test.YtcocnmolojcoaaaBaseP
namespace Go.Proofs.Ytcocnmolojcoaaa.Pure
open Go.RowKit Go.Proofs.Ytcocnmolojcoaaa.MFnExactShapeOf Go.Proofs.YtcocnmolojcoaaaW.PrintWords Go.Proofs.Ytcocnmolojcoaaa.Base
set_option linter.unusedVariables false
set_option linter.unusedSimpArgs false
/-! ### laws.toIntS, laws.eqIntS -/
theorem toInt_l (l : List Int) (hl : l.length * 8 ≤ 140737488351232) : ∀ (suf pre : List Int), l = pre ++ suf → Ev (fun k => laws_toIntS.l0 k l (pre ++ List.replicate suf.length 0) (pre.length : Int)) l := by
  intro suf
  induction suf with
  | nil =>
    intro pre e
    have h := len_end e
    refine ev_succ ?_
    simp only [laws_toIntS.l0.eq_2]
    refine ev_neg (by omega) ?_
    exact ev_now (by rw [e]; simp)
  | cons c suf ih =>
    intro pre e
    have h := len_mid e
    refine ev_succ ?_
    simp only [laws_toIntS.l0.eq_2, rd_mid' e]
    refine ev_pos (by omega) (ev_pos (by omega) (ev_pos (by simp; omega) ?_))
    rw [wrap_snoc (pre := pre) (c := c) (by omega)]
    have e2 : (pre ++ List.replicate (c :: suf).length 0).set ((pre.length : Int)).toNat c = (pre ++ [c]) ++ List.replicate suf.length 0 := by
      simp [List.replicate_succ]
    rw [e2]
    exact ih _ (snoc_mid e)
theorem toInt_ev (l : List Int) (hl : l.length * 8 ≤ 140737488351232) : Ev (fun k => laws_toIntS.f k l) l := by
  unfold laws_toIntS.f
  refine ev_pos (by omega) (ev_pos (by omega) ?_)
  have := toInt_l l hl l [] rfl
  simpa using this

theorem eqInt_l (a b : List Int) (hl : a.length * 8 ≤ 140737488351232) : ∀ (s t pre q : List Int), a = pre ++ s → b = q ++ t → pre.length = q.length → s.length = t.length → Ev (fun k => laws_eqIntS.l0 k a b (pre.length : Int)) (decide (s = t)) := by
  intro s
  induction s with
  | nil =>
    intro t pre q e e' h1 h2
    have h := len_end e
    obtain rfl : t = [] := by cases t with
      | nil => rfl
      | cons _ _ => simp at h2
    refine ev_succ ?_
    simp only [laws_eqIntS.l0.eq_2]
    refine ev_neg (by omega) ?_
    exact ev_now (by simp)
  | cons c s ih =>
    intro t pre q e e' h1 h2
    cases t with
    | nil => simp at h2
    | cons d t =>
    have h := len_mid e
    have h' := len_mid e'
    refine ev_succ ?_
    have r1 := rd_mid' e
    have r2 := rd_mid' e'
    rw [← h1] at r2
    simp only [laws_eqIntS.l0.eq_2, r1, r2]
    refine ev_pos (by omega) (ev_pos (by omega) (ev_pos (by omega) ?_))
    by_cases hc : c = d
    · refine ev_pos hc ?_
      rw [wrap_snoc (pre := pre) (c := c) (by omega)]
      refine ev_eq (ih t (pre ++ [c]) (q ++ [d]) (snoc_mid e) (snoc_mid e') (by simp [h1]) (by simpa using h2)) ?_
      simp [hc]
    · refine ev_neg hc (ev_now ?_)
      simp [hc]
theorem eqInt_ev (a b : List Int) (hl : a.length * 8 ≤ 140737488351232) : Ev (fun k => laws_eqIntS.f k a b) (decide (a = b)) := by
  unfold laws_eqIntS.f
  by_cases h : a.length = b.length
  · refine ev_pos (by omega) ?_
    exact eqInt_l a b hl a b [] [] rfl rfl rfl h
  · refine ev_neg (by omega) (ev_now ?_)
    symm
    exact decide_eq_false (fun e => h (by rw [e]))

/-! ### Is it an order? -/
theorem in_ev (a b c : Int) : Ev (fun _ => spec_l1In.f a b c) (decide (b ≤ a) && decide (a ≤ c)) := by
  unfold spec_l1In.f
  by_cases h : a ≥ b
  · refine ev_pos h (ev_now ?_)
    have : decide (b ≤ a) = true := decide_eq_true h
    rw [this]; rfl
  · refine ev_neg h (ev_now ?_)
    have : decide (b ≤ a) = false := decide_eq_false (by omega)
    rw [this]; rfl

theorem has_l (l : List Int) (x : Int) (hl : l.length ≤ 140737488351232) : ∀ (suf pre : List Int), l = pre ++ suf → Ev (fun k => spec_l1Has.l0 k l x (pre.length : Int)) (decide (x ∈ suf)) := by
  intro suf
  induction suf with
  | nil =>
    intro pre e
    have h := len_end e
    refine ev_succ ?_
    simp only [spec_l1Has.l0.eq_2]
    refine ev_neg (by omega) ?_
    exact ev_now (by simp)
  | cons c suf ih =>
    intro pre e
    have h := len_mid e
    refine ev_succ ?_
    simp only [spec_l1Has.l0.eq_2, rd_mid' e]
    refine ev_pos (by omega) (ev_pos (by omega) ?_)
    by_cases hc : c = x
    · exact ev_pos hc (ev_now (by simp [hc]))
    · refine ev_neg hc ?_
      rw [wrap_snoc (pre := pre) (c := c) (by omega)]
      refine ev_eq (ih _ (snoc_mid e)) ?_
      have : x ≠ c := fun h => hc h.symm
      simp [this]
theorem has_ev (l : List Int) (x : Int) (hl : l.length ≤ 140737488351232) : Ev (fun k => spec_l1Has.f k l x) (decide (x ∈ l)) := by
  unfold spec_l1Has.f
  exact has_l l x hl l [] rfl
theorem idx_l (l : List Int) (x : Int) (hl : l.length ≤ 140737488351232) : ∀ (suf pre : List Int), l = pre ++ suf → Ev (fun k => slices_Index_int_int.l0 k l x (l.length : Int) (pre.length : Int)) (if x ∈ suf then ((pre.length + suf.idxOf x : Nat) : Int) else -1) := by
  intro suf
  induction suf with
  | nil =>
    intro pre e
    have h := len_end e
    refine ev_succ ?_
    simp only [slices_Index_int_int.l0.eq_2]
    refine ev_neg (by omega) ?_
    exact ev_now (by simp)
  | cons c suf ih =>
    intro pre e
    have h := len_mid e
    refine ev_succ ?_
    simp only [slices_Index_int_int.l0.eq_2, rd_mid' e]
    refine ev_pos (by omega) (ev_pos (by omega) (ev_pos (by omega) ?_))
    by_cases hc : x = c
    · exact ev_pos hc (ev_now (by simp [hc]))
    · refine ev_neg hc ?_
      rw [wrap_snoc (pre := pre) (c := c) (by omega)]
      refine ev_eq (ih _ (snoc_mid e)) ?_
      have hc' : ¬ c = x := fun h => hc h.symm
      have hb : (c == x) = false := by simpa using hc'
      simp only [List.mem_cons, hc, false_or, List.idxOf_cons, hb, cond_false]
      by_cases hm : x ∈ suf
      · rw [if_pos hm, if_pos hm]; simp; omega
      · rw [if_neg hm, if_neg hm]
theorem idx_ev (l : List Int) (x : Int) (hl : l.length ≤ 140737488351232) : Ev (fun k => slices_Index_int_int.f k l x) (if x ∈ l then ((l.idxOf x : Nat) : Int) else -1) := by
  unfold slices_Index_int_int.f
  simpa using idx_l l x hl l [] rfl
theorem contains_ev (l : List Int) (x : Int) (hl : l.length ≤ 140737488351232) : Ev (fun k => slices_Contains_int_int.f k l x) (decide (x ∈ l)) := by
  unfold slices_Contains_int_int.f
  refine ev_bind (idx_ev l x hl) (ev_now ?_)
  by_cases h : x ∈ l
  · simp [h]
  · simp [h]

/-! ### laws.markIntS, laws.heldIntS -/
theorem mark_l : ∀ (suf pre : List Int) (x : Int), 0 ≤ x → x + suf.length ≤ 4611686018427387904 → pre.length + suf.length ≤ 4611686018427387904 → Ev (fun k => laws_markIntS.l0 k (pre ++ suf) x (pre.length : Int)) (x + suf.length, pre ++ iota x suf.length) := by
  intro suf
  induction suf with
  | nil =>
    intro pre x h0 h1 h2
    refine ev_succ ?_
    simp only [laws_markIntS.l0.eq_2]
    refine ev_neg (by simp) ?_
    exact ev_now (by simp [iota])
  | cons c suf ih =>
    intro pre x h0 h1 h2
    simp only [List.length_cons] at h1 h2
    refine ev_succ ?_
    simp only [laws_markIntS.l0.eq_2]
    refine ev_pos (by simp; omega) (ev_pos (by omega) ?_)
    have e2 : (pre ++ c :: suf).set ((pre.length : Int)).toNat x = (pre ++ [x]) ++ suf := by simp
    rw [wrap_snoc (pre := pre) (c := x) (by omega), e2, wrap_of (by omega) (by omega)]
    refine ev_eq (ih (pre ++ [x]) (x + 1) (by omega) (by omega) (by simp; omega)) ?_
    simp [iota]; omega
theorem mark_ev (l : List Int) (x : Int) (h0 : 0 ≤ x) (h1 : x + l.length ≤ 4611686018427387904) : Ev (fun k => laws_markIntS.f k l x) (x + l.length, iota x l.length) := by
  unfold laws_markIntS.f
  have := mark_l l [] x h0 h1 (by simp; omega)
  simpa using this
theorem held_l : ∀ (n : Nat) (pre : List Int) (x : Int), 0 ≤ x → x + n ≤ 4611686018427387904 → pre.length + n ≤ 4611686018427387904 → Ev (fun k => laws_heldIntS.l0 k (pre ++ iota x n) x (pre.length : Int)) (x + n) := by
  intro n
  induction n with
  | zero =>
    intro pre x h0 h1 h2
    refine ev_succ ?_
    simp only [laws_heldIntS.l0.eq_2]
    refine ev_neg (by simp [iota]) ?_
    exact ev_now (by simp)
  | succ n ih =>
    intro pre x h0 h1 h2
    refine ev_succ ?_
    simp only [laws_heldIntS.l0.eq_2, iota, rd_mid]
    refine ev_pos (by simp; omega) (ev_pos (by omega) (ev_pos trivial ?_))
    rw [wrap_snoc (pre := pre) (c := x) (by omega), wrap_of (by omega) (by omega), show pre ++ x :: iota (x + 1) n = (pre ++ [x]) ++ iota (x + 1) n by simp]
    refine ev_eq (ih (pre ++ [x]) (x + 1) (by omega) (by omega) (by simp; omega)) ?_
    omega
theorem held_ev (n : Nat) (x : Int) (h0 : 0 ≤ x) (h1 : x + n ≤ 4611686018427387904) : Ev (fun k => laws_heldIntS.f k (iota x n) x) (x + n) := by
  unfold laws_heldIntS.f
  have := held_l n [] x h0 h1 (by simp; omega)
  simpa using this

/-- The law's frame: where both sides come to one list, of at most a million numbers. -/
theorem law_frame (l out : List Int) (b : Bool) (hl : l.length * 8 ≤ 140737488351232) (ho : out.length ≤ 1000000)
    (hs : Ev (fun k => spec_ShapeOf.f k l) (out, b)) (hi : Ev (fun k => impl_ShapeOf.f k l) (out, b)) : Ev (fun k => laws_FnExactShapeOf.f k l) true := by
  unfold laws_FnExactShapeOf.f
  by_cases h1 : (l.length : Int) > 1048576
  · exact ev_pos h1 (ev_now rfl)
  refine ev_neg h1 (ev_bind (toInt_ev l hl) (ev_bind hs (ev_bind (toInt_ev l hl) (ev_bind hi (ev_bind (eqInt_ev out out (by omega)) (ev_pos (by simp) ?_))))))
  refine ev_succ ?_
  simp only [laws_FnExactShapeOf.j0.eq_2]
  refine ev_neg (by simp) (ev_bind (toInt_ev l hl) (ev_bind (eqInt_ev l l hl) (ev_pos (by simp) (ev_bind (mark_ev l 1 (by omega) (by omega)) (ev_neg (by omega) (ev_bind (eqInt_ev out out (by omega)) (ev_pos (by simp) ?_)))))))
  refine ev_succ ?_
  simp only [laws_FnExactShapeOf.j1.eq_2]
  refine ev_neg (by simp) (ev_bind (mark_ev out 1 (by omega) (by omega)) (ev_bind (held_ev _ 1 (by omega) (by omega)) (ev_neg (by omega) (ev_pos rfl (ev_bind (toInt_ev l hl) (ev_bind hi (ev_bind (eqInt_ev out out (by omega)) (ev_pos (by simp) ?_))))))))
  refine ev_succ ?_
  simp only [laws_FnExactShapeOf.j2.eq_2]
  exact ev_neg (by simp) (ev_bind (held_ev _ 1 (by omega) (by omega)) (ev_neg (by omega) (ev_pos rfl (ev_now rfl))))

theorem isSize_ev (n : Int) : Ev (fun _ => impl_isSize.f n) (decide (1 ≤ n) && decide (n ≤ 7)) := by
  unfold impl_isSize.f
  by_cases h : n ≥ 1
  · refine ev_pos h (ev_now ?_)
    have : decide (1 ≤ n) = true := decide_eq_true h
    rw [this]; rfl
  · refine ev_neg h (ev_now ?_)
    have : decide (1 ≤ n) = false := decide_eq_false (by omega)
    rw [this]; rfl

/-! ### shape -/
theorem spec_shape_in (l : List Int) (hl : l.length ≤ 7) (x : Int) (i : Int) (hi : 0 ≤ i ∧ i < l.length) (hx : rd l i = x) (out R : List Int) (ho : out.length ≤ 7) : ∀ (suf pre : List Int) (a : Int), l = pre ++ suf → 0 ≤ a → a + suf.length ≤ 100 → Ev (fun k => spec_l3Shape.l0 k l (out ++ [a + lessN x suf]) (wrap64 (i + 1))) R → Ev (fun k => spec_l3Shape.l1 k l out i a (pre.length : Int)) R := by
  intro suf
  induction suf with
  | nil =>
    intro pre a e h0 h1 hR
    have h := len_end e
    refine ev_succ ?_
    simp only [spec_l3Shape.l1.eq_2]
    refine ev_neg (by omega) (ev_pos (by omega) ?_)
    simpa [lessN] using hR
  | cons c suf ih =>
    intro pre a e h0 h1 hR
    have h := len_mid e
    simp only [List.length_cons] at h1
    refine ev_succ ?_
    simp only [spec_l3Shape.l1.eq_2, rd_mid' e, hx]
    rw [wrap_snoc (pre := pre) (c := c) (by omega)]
    refine ev_pos (by omega) (ev_pos (by omega) (ev_pos (by omega) (ev_pos (by omega) ?_)))
    rw [lessN_cons] at hR
    by_cases hc : c < x
    · refine ev_pos hc ?_
      rw [wrap_of (x := a + 1) (by omega) (by omega)]
      refine ih _ _ (snoc_mid e) (by omega) (by omega) ?_
      rw [if_pos hc] at hR
      rwa [show a + 1 + (lessN x suf : Int) = a + ((1 + lessN x suf : Nat) : Int) by omega]
    · refine ev_neg hc (ih _ _ (snoc_mid e) (by omega) (by omega) ?_)
      rw [if_neg hc] at hR
      simpa using hR
theorem spec_shape_l (l : List Int) (hl : l.length ≤ 7) : ∀ (suf pre out : List Int), l = pre ++ suf → out.length = pre.length → Ev (fun k => spec_l3Shape.l0 k l out (pre.length : Int)) (out ++ suf.map (fun x => ((1 + lessN x l : Nat) : Int))) := by
  intro suf
  induction suf with
  | nil =>
    intro pre out e ho
    have h := len_end e
    refine ev_succ ?_
    simp only [spec_l3Shape.l0.eq_2]
    exact ev_neg (by omega) (ev_now (by simp))
  | cons c suf ih =>
    intro pre out e ho
    have h := len_mid e
    refine ev_succ ?_
    simp only [spec_l3Shape.l0.eq_2]
    refine ev_pos (by omega) (spec_shape_in l hl c _ ⟨by omega, by omega⟩ (rd_mid' e) out _ (by omega) l [] 1 rfl (by omega) (by omega) ?_)
    rw [wrap_snoc (pre := pre) (c := c) (by omega)]
    refine ev_eq (ih _ _ (snoc_mid e) ?_) ?_
    · simp [ho]
    · simp
theorem spec_shape_ev (l : List Int) (hl : l.length ≤ 7) : Ev (fun k => spec_l3Shape.f k l) (shapeL l) := by
  unfold spec_l3Shape.f shapeL
  exact spec_shape_l l hl l [] [] rfl rfl
theorem impl_shape_in (l : List Int) (hl : l.length ≤ 7) (x : Int) (i : Int) (out R : List Int) (ho : out.length ≤ 7) : ∀ (suf pre : List Int) (a : Int), l = pre ++ suf → 0 ≤ a → a + suf.length ≤ 100 → Ev (fun k => impl_shape.l0 k l (out ++ [a + lessN x suf]) l (l.length : Int) (wrap64 (i + 1))) R → Ev (fun k => impl_shape.l1 k l out x a l (l.length : Int) i l (l.length : Int) (pre.length : Int)) R := by
  intro suf
  induction suf with
  | nil =>
    intro pre a e h0 h1 hR
    have h := len_end e
    refine ev_succ ?_
    simp only [impl_shape.l1.eq_2]
    refine ev_neg (by omega) (ev_pos (by omega) ?_)
    simpa [lessN] using hR
  | cons c suf ih =>
    intro pre a e h0 h1 hR
    have h := len_mid e
    simp only [List.length_cons] at h1
    refine ev_succ ?_
    simp only [impl_shape.l1.eq_2, rd_mid' e]
    rw [wrap_snoc (pre := pre) (c := c) (by omega)]
    refine ev_pos (by omega) (ev_pos (by omega) (ev_pos (by omega) ?_))
    rw [lessN_cons] at hR
    by_cases hc : c < x
    · refine ev_pos hc ?_
      rw [wrap_of (x := a + 1) (by omega) (by omega)]
      refine ih _ _ (snoc_mid e) (by omega) (by omega) ?_
      rw [if_pos hc] at hR
      rwa [show a + 1 + (lessN x suf : Int) = a + ((1 + lessN x suf : Nat) : Int) by omega]
    · refine ev_neg hc (ih _ _ (snoc_mid e) (by omega) (by omega) ?_)
      rw [if_neg hc] at hR
      simpa using hR
theorem impl_shape_l (l : List Int) (hl : l.length ≤ 7) : ∀ (suf pre out : List Int), l = pre ++ suf → out.length = pre.length → Ev (fun k => impl_shape.l0 k l out l (l.length : Int) (pre.length : Int)) (out ++ suf.map (fun x => ((1 + lessN x l : Nat) : Int))) := by
  intro suf
  induction suf with
  | nil =>
    intro pre out e ho
    have h := len_end e
    refine ev_succ ?_
    simp only [impl_shape.l0.eq_2]
    exact ev_neg (by omega) (ev_now (by simp))
  | cons c suf ih =>
    intro pre out e ho
    have h := len_mid e
    refine ev_succ ?_
    simp only [impl_shape.l0.eq_2, rd_mid' e]
    refine ev_pos (by omega) (ev_pos (by omega) (ev_pos (by omega) (impl_shape_in l hl c _ out _ (by omega) l [] 1 rfl (by omega) (by omega) ?_)))
    rw [wrap_snoc (pre := pre) (c := c) (by omega)]
    refine ev_eq (ih _ _ (snoc_mid e) ?_) ?_
    · simp [ho]
    · simp
theorem impl_shape_ev (l : List Int) (hl : l.length ≤ 7) : Ev (fun k => impl_shape.f k l) (shapeL l) := by
  unfold impl_shape.f shapeL
  exact impl_shape_l l hl l [] [] rfl rfl

/-! ### ShapeOf -/
theorem spec_dist_l (l : List Int) (hl : l.length ≤ 7) : ∀ (suf pre : List Int), l = pre ++ suf → Ev (fun k => spec_ShapeOf.l0 k l (pre.length : Int)) (if distGo pre suf = true then (shapeL l, true) else ([], false)) := by
  intro suf
  induction suf with
  | nil =>
    intro pre e
    have h := len_end e
    refine ev_succ ?_
    simp only [spec_ShapeOf.l0.eq_2]
    exact ev_neg (by omega) (ev_bind (spec_shape_ev l hl) (ev_now (by simp [distGo])))
  | cons c suf ih =>
    intro pre e
    have h := len_mid e
    refine ev_succ ?_
    simp only [spec_ShapeOf.l0.eq_2, rd_mid' e, take_mid e]
    rw [wrap_snoc (pre := pre) (c := c) (by omega)]
    refine ev_pos (by omega) (ev_pos (by omega) (ev_pos (by omega) (ev_bind (has_ev pre c (by omega)) ?_)))
    by_cases hc : c ∈ pre
    · exact ev_pos (by simp [hc]) (ev_now (by simp [distGo, hc]))
    · refine ev_neg (by simp [hc]) (ev_eq (ih _ (snoc_mid e)) ?_)
      simp [distGo, hc]
theorem spec_shapeof_ev (l : List Int) (hl : l.length ≤ 140737488351232) : Ev (fun k => spec_ShapeOf.f k l) (shapeR l) := by
  unfold spec_ShapeOf.f shapeR isList
  refine ev_bind (in_ev _ _ _) ?_
  by_cases h : 1 ≤ l.length ∧ l.length ≤ 7
  · refine ev_pos (by simp; omega) (ev_eq (spec_dist_l l h.2 l [] rfl) ?_)
    simp [h.1, h.2]
  · refine ev_neg (by simp; omega) (ev_now ?_)
    rw [if_neg]; simp; omega
theorem impl_dist_l (l : List Int) (hl : l.length ≤ 7) : ∀ (suf pre : List Int), l = pre ++ suf → Ev (fun k => impl_ShapeOf.l0 k l l (l.length : Int) (pre.length : Int)) (if distGo pre suf = true then (shapeL l, true) else ([], false)) := by
  intro suf
  induction suf with
  | nil =>
    intro pre e
    have h := len_end e
    refine ev_succ ?_
    simp only [impl_ShapeOf.l0.eq_2]
    exact ev_neg (by omega) (ev_bind (impl_shape_ev l hl) (ev_now (by simp [distGo])))
  | cons c suf ih =>
    intro pre e
    have h := len_mid e
    refine ev_succ ?_
    simp only [impl_ShapeOf.l0.eq_2, rd_mid' e, take_mid e]
    rw [wrap_snoc (pre := pre) (c := c) (by omega)]
    refine ev_pos (by omega) (ev_pos (by omega) (ev_pos (by omega) (ev_pos (by omega) (ev_bind (contains_ev pre c (by omega)) ?_))))
    by_cases hc : c ∈ pre
    · exact ev_pos (by simp [hc]) (ev_now (by simp [distGo, hc]))
    · refine ev_neg (by simp [hc]) (ev_eq (ih _ (snoc_mid e)) ?_)
      simp [distGo, hc]
theorem impl_shapeof_ev (l : List Int) (hl : l.length ≤ 140737488351232) : Ev (fun k => impl_ShapeOf.f k l) (shapeR l) := by
  unfold impl_ShapeOf.f shapeR isList
  refine ev_bind (isSize_ev _) ?_
  by_cases h : 1 ≤ l.length ∧ l.length ≤ 7
  · refine ev_pos (by simp; omega) (ev_eq (impl_dist_l l h.2 l [] rfl) ?_)
    simp [h.1, h.2]
  · refine ev_neg (by simp; omega) (ev_now ?_)
    rw [if_neg]; simp; omega

theorem FnExactShapeOf : laws_FnExactShapeOf.Pure := by
  intro l hm hl hw
  apply Ev.rounds (r := true)
  have hl' := len_max hl
  refine law_frame l (shapeR l).1 (shapeR l).2 hl ?_ (spec_shapeof_ev l hl') (impl_shapeof_ev l hl')
  unfold shapeR; split
  · rename_i h; have := (isList_iff l).1 h; simp [shapeL]; omega
  · simp
end Go.Proofs.Ytcocnmolojcoaaa.Pure
