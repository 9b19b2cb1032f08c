/- The pure statement of FnExactFirstPlaces: program and reference tell the same first places. No condition. -/
import Derived.Test.YtdiecblalplalaaMFnExactFirstPlacesx6
import Derived.Test.YtdiecblalplalaaBase
import Derived.Test.YtdiecblalplalaaBaseP
import Derived.Test.YtdiecblalplalaaBaseN
import Derived.Test.YtdiecblalplalaaBaseF
namespace Go.Proofs.Ytdiecblalplalaa.Pure
open Go Go.RowKit Go.Proofs.Ytdiecblalplalaa.MFnExactFirstPlaces Go.Proofs.YtdiecblalplalaaW.PrintWords Go.Proofs.Ytdiecblalplalaa.Base
set_option linter.unusedVariables false
set_option linter.unusedSimpArgs false
/-! ### laws.toIntS, laws.eqIntS -/
theorem toInt_l (l : List Int) (hl : l.length * 8 ≤ 140737488351232) : ∀ (suf pre : List Int), l = pre ++ suf → Ev (fun k => laws_toIntS.l0 k l (pre ++ List.replicate suf.length 0) (pre.length : Int)) l := by
  intro suf
  induction suf with
  | nil =>
    intro pre e
    have h := len_end e
    refine ev_succ ?_
    simp only [laws_toIntS.l0.eq_2]
    refine ev_neg (by omega) ?_
    exact ev_now (by rw [e]; simp)
  | cons c suf ih =>
    intro pre e
    have h := len_mid e
    refine ev_succ ?_
    simp only [laws_toIntS.l0.eq_2, rd_mid' e]
    refine ev_pos (by omega) (ev_pos (by omega) (ev_pos (by simp; omega) ?_))
    rw [wrap_snoc (pre := pre) (c := c) (by omega)]
    have e2 : (pre ++ List.replicate (c :: suf).length 0).set ((pre.length : Int)).toNat c = (pre ++ [c]) ++ List.replicate suf.length 0 := by
      simp [List.replicate_succ]
    rw [e2]
    exact ih _ (snoc_mid e)
theorem toInt_ev (l : List Int) (hl : l.length * 8 ≤ 140737488351232) : Ev (fun k => laws_toIntS.f k l) l := by
  unfold laws_toIntS.f
  refine ev_pos (by omega) (ev_pos (by omega) ?_)
  have := toInt_l l hl l [] rfl
  simpa using this

theorem eqInt_l (a b : List Int) (hl : a.length * 8 ≤ 140737488351232) : ∀ (s t pre q : List Int), a = pre ++ s → b = q ++ t → pre.length = q.length → s.length = t.length → Ev (fun k => laws_eqIntS.l0 k a b (pre.length : Int)) (decide (s = t)) := by
  intro s
  induction s with
  | nil =>
    intro t pre q e e' h1 h2
    have h := len_end e
    obtain rfl : t = [] := by cases t with
      | nil => rfl
      | cons _ _ => simp at h2
    refine ev_succ ?_
    simp only [laws_eqIntS.l0.eq_2]
    refine ev_neg (by omega) ?_
    exact ev_now (by simp)
  | cons c s ih =>
    intro t pre q e e' h1 h2
    cases t with
    | nil => simp at h2
    | cons d t =>
    have h := len_mid e
    have h' := len_mid e'
    refine ev_succ ?_
    have r1 := rd_mid' e
    have r2 := rd_mid' e'
    rw [← h1] at r2
    simp only [laws_eqIntS.l0.eq_2, r1, r2]
    refine ev_pos (by omega) (ev_pos (by omega) (ev_pos (by omega) ?_))
    by_cases hc : c = d
    · refine ev_pos hc ?_
      rw [wrap_snoc (pre := pre) (c := c) (by omega)]
      refine ev_eq (ih t (pre ++ [c]) (q ++ [d]) (snoc_mid e) (snoc_mid e') (by simp [h1]) (by simpa using h2)) ?_
      simp [hc]
    · refine ev_neg hc (ev_now ?_)
      simp [hc]
theorem eqInt_ev (a b : List Int) (hl : a.length * 8 ≤ 140737488351232) : Ev (fun k => laws_eqIntS.f k a b) (decide (a = b)) := by
  unfold laws_eqIntS.f
  by_cases h : a.length = b.length
  · refine ev_pos (by omega) ?_
    exact eqInt_l a b hl a b [] [] rfl rfl rfl h
  · refine ev_neg (by omega) (ev_now ?_)
    symm
    exact decide_eq_false (fun e => h (by rw [e]))

theorem same_l (a b : List Int) (hl : a.length * 8 ≤ 140737488351232) : ∀ (s t pre q : List Int), a = pre ++ s → b = q ++ t → pre.length = q.length → s.length = t.length → Ev (fun k => spec_l1Same.l0 k a b (pre.length : Int)) (decide (s = t)) := by
  intro s
  induction s with
  | nil =>
    intro t pre q e e' h1 h2
    have h := len_end e
    obtain rfl : t = [] := by cases t with
      | nil => rfl
      | cons _ _ => simp at h2
    refine ev_succ ?_
    simp only [spec_l1Same.l0.eq_2]
    refine ev_neg (by omega) ?_
    exact ev_now (by simp)
  | cons c s ih =>
    intro t pre q e e' h1 h2
    cases t with
    | nil => simp at h2
    | cons d t =>
    have h := len_mid e
    have h' := len_mid e'
    refine ev_succ ?_
    have r1 := rd_mid' e
    have r2 := rd_mid' e'
    rw [← h1] at r2
    simp only [spec_l1Same.l0.eq_2, r1, r2]
    refine ev_pos (by omega) (ev_pos (by omega) (ev_pos (by omega) ?_))
    by_cases hc : c = d
    · refine ev_pos hc ?_
      rw [wrap_snoc (pre := pre) (c := c) (by omega)]
      refine ev_eq (ih t (pre ++ [c]) (q ++ [d]) (snoc_mid e) (snoc_mid e') (by simp [h1]) (by simpa using h2)) ?_
      simp [hc]
    · refine ev_neg hc (ev_now ?_)
      simp [hc]
theorem same_ev (a b : List Int) (hl : a.length * 8 ≤ 140737488351232) : Ev (fun k => spec_l1Same.f k a b) (decide (a = b)) := by
  unfold spec_l1Same.f
  by_cases h : a.length = b.length
  · refine ev_pos (by omega) ?_
    exact same_l a b hl a b [] [] rfl rfl rfl h
  · refine ev_neg (by omega) (ev_now ?_)
    symm
    exact decide_eq_false (fun e => h (by rw [e]))

/-! ### Is it an order? -/
theorem in_ev (a b c : Int) : Ev (fun _ => spec_l1In.f a b c) (decide (b ≤ a) && decide (a ≤ c)) := by
  unfold spec_l1In.f
  by_cases h : a ≥ b
  · refine ev_pos h (ev_now ?_)
    have : decide (b ≤ a) = true := decide_eq_true h
    rw [this]; rfl
  · refine ev_neg h (ev_now ?_)
    have : decide (b ≤ a) = false := decide_eq_false (by omega)
    rw [this]; rfl

theorem has_l (l : List Int) (x : Int) (hl : l.length ≤ 140737488351232) : ∀ (suf pre : List Int), l = pre ++ suf → Ev (fun k => spec_l1Has.l0 k l x (pre.length : Int)) (decide (x ∈ suf)) := by
  intro suf
  induction suf with
  | nil =>
    intro pre e
    have h := len_end e
    refine ev_succ ?_
    simp only [spec_l1Has.l0.eq_2]
    refine ev_neg (by omega) ?_
    exact ev_now (by simp)
  | cons c suf ih =>
    intro pre e
    have h := len_mid e
    refine ev_succ ?_
    simp only [spec_l1Has.l0.eq_2, rd_mid' e]
    refine ev_pos (by omega) (ev_pos (by omega) ?_)
    by_cases hc : c = x
    · exact ev_pos hc (ev_now (by simp [hc]))
    · refine ev_neg hc ?_
      rw [wrap_snoc (pre := pre) (c := c) (by omega)]
      refine ev_eq (ih _ (snoc_mid e)) ?_
      have : x ≠ c := fun h => hc h.symm
      simp [this]
theorem has_ev (l : List Int) (x : Int) (hl : l.length ≤ 140737488351232) : Ev (fun k => spec_l1Has.f k l x) (decide (x ∈ l)) := by
  unfold spec_l1Has.f
  exact has_l l x hl l [] rfl
theorem idx_l (l : List Int) (x : Int) (hl : l.length ≤ 140737488351232) : ∀ (suf pre : List Int), l = pre ++ suf → Ev (fun k => slices_Index_int_int.l0 k l x (l.length : Int) (pre.length : Int)) (if x ∈ suf then ((pre.length + suf.idxOf x : Nat) : Int) else -1) := by
  intro suf
  induction suf with
  | nil =>
    intro pre e
    have h := len_end e
    refine ev_succ ?_
    simp only [slices_Index_int_int.l0.eq_2]
    refine ev_neg (by omega) ?_
    exact ev_now (by simp)
  | cons c suf ih =>
    intro pre e
    have h := len_mid e
    refine ev_succ ?_
    simp only [slices_Index_int_int.l0.eq_2, rd_mid' e]
    refine ev_pos (by omega) (ev_pos (by omega) (ev_pos (by omega) ?_))
    by_cases hc : x = c
    · exact ev_pos hc (ev_now (by simp [hc]))
    · refine ev_neg hc ?_
      rw [wrap_snoc (pre := pre) (c := c) (by omega)]
      refine ev_eq (ih _ (snoc_mid e)) ?_
      have hc' : ¬ c = x := fun h => hc h.symm
      have hb : (c == x) = false := by simpa using hc'
      simp only [List.mem_cons, hc, false_or, List.idxOf_cons, hb, cond_false]
      by_cases hm : x ∈ suf
      · rw [if_pos hm, if_pos hm]; simp; omega
      · rw [if_neg hm, if_neg hm]
theorem idx_ev (l : List Int) (x : Int) (hl : l.length ≤ 140737488351232) : Ev (fun k => slices_Index_int_int.f k l x) (if x ∈ l then ((l.idxOf x : Nat) : Int) else -1) := by
  unfold slices_Index_int_int.f
  simpa using idx_l l x hl l [] rfl
theorem contains_ev (l : List Int) (x : Int) (hl : l.length ≤ 140737488351232) : Ev (fun k => slices_Contains_int_int.f k l x) (decide (x ∈ l)) := by
  unfold slices_Contains_int_int.f
  refine ev_bind (idx_ev l x hl) (ev_now ?_)
  by_cases h : x ∈ l
  · simp [h]
  · simp [h]

theorem spec_order_l (l : List Int) (hl : l.length ≤ 140737488351232) : ∀ (suf pre : List Int), l = pre ++ suf → Ev (fun k => spec_l2Order.l0 k l (pre.length : Int)) (ordGo (l.length : Int) pre suf) := by
  intro suf
  induction suf with
  | nil =>
    intro pre e
    have h := len_end e
    refine ev_succ ?_
    simp only [spec_l2Order.l0.eq_2]
    refine ev_neg (by omega) ?_
    exact ev_now rfl
  | cons c suf ih =>
    intro pre e
    have h := len_mid e
    refine ev_succ ?_
    simp only [spec_l2Order.l0.eq_2, rd_mid' e, take_mid e]
    refine ev_pos (by omega) (ev_pos (by omega) (ev_bind (in_ev _ _ _) ?_))
    by_cases hr : 1 ≤ c ∧ c ≤ (l.length : Int)
    · refine ev_pos (by simp [hr.1, hr.2]) (ev_pos (by omega) (ev_bind (has_ev pre c (by omega)) ?_))
      by_cases hc : c ∈ pre
      · exact ev_pos (by simp [hc]) (ev_now (by simp [ordGo, hc]))
      · refine ev_neg (by simp [hc]) ?_
        rw [wrap_snoc (pre := pre) (c := c) (by omega)]
        refine ev_eq (ih _ (snoc_mid e)) ?_
        simp [ordGo, hr.1, hr.2, hc]
    · refine ev_neg (by simp; omega) (ev_now ?_)
      simp only [ordGo]
      rw [if_neg (fun h => hr ⟨h.1, h.2.1⟩)]
theorem spec_order_ev (l : List Int) (hl : l.length ≤ 140737488351232) : Ev (fun k => spec_l2Order.f k l) (isOrd l) := by
  unfold spec_l2Order.f
  refine ev_bind (in_ev _ _ _) ?_
  unfold isOrd
  by_cases h : 1 ≤ l.length ∧ l.length ≤ 7
  · refine ev_pos (by simp; omega) ?_
    rw [if_pos h]
    exact spec_order_l l hl l [] rfl
  · refine ev_neg (by simp; omega) (ev_now ?_)
    rw [if_neg h]
theorem impl_order_l (l : List Int) (hl : l.length ≤ 140737488351232) : ∀ (suf pre : List Int), l = pre ++ suf → Ev (fun k => impl_isOrder.l0 k l l (l.length : Int) (pre.length : Int)) (ordGo (l.length : Int) pre suf) := by
  intro suf
  induction suf with
  | nil =>
    intro pre e
    have h := len_end e
    refine ev_succ ?_
    simp only [impl_isOrder.l0.eq_2]
    refine ev_neg (by omega) ?_
    exact ev_now rfl
  | cons c suf ih =>
    intro pre e
    have h := len_mid e
    refine ev_succ ?_
    simp only [impl_isOrder.l0.eq_2, rd_mid' e, take_mid e]
    refine ev_pos (by omega) (ev_pos (by omega) (ev_pos (by omega) ?_))
    by_cases h1 : c < 1
    · exact ev_pos h1 (ev_now (by simp only [ordGo]; rw [if_neg (fun h => by omega)]))
    refine ev_neg h1 ?_
    by_cases h2 : c > (l.length : Int)
    · exact ev_pos h2 (ev_now (by simp only [ordGo]; rw [if_neg (fun h => by omega)]))
    refine ev_neg h2 (ev_pos (by omega) (ev_bind (contains_ev pre c (by omega)) ?_))
    by_cases hc : c ∈ pre
    · exact ev_pos (by simp [hc]) (ev_now (by simp [ordGo, hc]))
    · refine ev_neg (by simp [hc]) ?_
      rw [wrap_snoc (pre := pre) (c := c) (by omega)]
      refine ev_eq (ih _ (snoc_mid e)) ?_
      simp only [ordGo]
      rw [if_pos ⟨by omega, by omega, hc⟩]
theorem impl_order_ev (l : List Int) (hl : l.length ≤ 140737488351232) : Ev (fun k => impl_isOrder.f k l) (isOrd l) := by
  have key : ∀ b : Bool, Ev (fun k => impl_isOrder.j0 k l b) (if b = true then false else ordGo (l.length : Int) [] l) := by
    intro b
    refine ev_succ ?_
    simp only [impl_isOrder.j0.eq_2]
    cases b with
    | true => exact ev_pos rfl (ev_now rfl)
    | false => exact ev_neg (by simp) (impl_order_l l hl l [] rfl)
  unfold impl_isOrder.f isOrd
  by_cases h1 : (l.length : Int) < 1
  · refine ev_pos h1 (ev_eq (key true) ?_)
    rw [if_pos rfl, if_neg (fun h => by omega)]
  · refine ev_neg h1 (ev_eq (key _) ?_)
    by_cases h2 : (l.length : Int) > 7
    · rw [if_neg (c := 1 ≤ l.length ∧ l.length ≤ 7) (fun h => by omega), if_pos (decide_eq_true h2)]
    · rw [if_pos (c := 1 ≤ l.length ∧ l.length ≤ 7) ⟨by omega, by omega⟩, if_neg (by simp; omega)]

/-! ### laws.markIntS, laws.heldIntS -/
theorem mark_l : ∀ (suf pre : List Int) (x : Int), 0 ≤ x → x + suf.length ≤ 4611686018427387904 → pre.length + suf.length ≤ 4611686018427387904 → Ev (fun k => laws_markIntS.l0 k (pre ++ suf) x (pre.length : Int)) (x + suf.length, pre ++ iota x suf.length) := by
  intro suf
  induction suf with
  | nil =>
    intro pre x h0 h1 h2
    refine ev_succ ?_
    simp only [laws_markIntS.l0.eq_2]
    refine ev_neg (by simp) ?_
    exact ev_now (by simp [iota])
  | cons c suf ih =>
    intro pre x h0 h1 h2
    simp only [List.length_cons] at h1 h2
    refine ev_succ ?_
    simp only [laws_markIntS.l0.eq_2]
    refine ev_pos (by simp; omega) (ev_pos (by omega) ?_)
    have e2 : (pre ++ c :: suf).set ((pre.length : Int)).toNat x = (pre ++ [x]) ++ suf := by simp
    rw [wrap_snoc (pre := pre) (c := x) (by omega), e2, wrap_of (by omega) (by omega)]
    refine ev_eq (ih (pre ++ [x]) (x + 1) (by omega) (by omega) (by simp; omega)) ?_
    simp [iota]; omega
theorem mark_ev (l : List Int) (x : Int) (h0 : 0 ≤ x) (h1 : x + l.length ≤ 4611686018427387904) : Ev (fun k => laws_markIntS.f k l x) (x + l.length, iota x l.length) := by
  unfold laws_markIntS.f
  have := mark_l l [] x h0 h1 (by simp; omega)
  simpa using this
theorem held_l : ∀ (n : Nat) (pre : List Int) (x : Int), 0 ≤ x → x + n ≤ 4611686018427387904 → pre.length + n ≤ 4611686018427387904 → Ev (fun k => laws_heldIntS.l0 k (pre ++ iota x n) x (pre.length : Int)) (x + n) := by
  intro n
  induction n with
  | zero =>
    intro pre x h0 h1 h2
    refine ev_succ ?_
    simp only [laws_heldIntS.l0.eq_2]
    refine ev_neg (by simp [iota]) ?_
    exact ev_now (by simp)
  | succ n ih =>
    intro pre x h0 h1 h2
    refine ev_succ ?_
    simp only [laws_heldIntS.l0.eq_2, iota, rd_mid]
    refine ev_pos (by simp; omega) (ev_pos (by omega) (ev_pos trivial ?_))
    rw [wrap_snoc (pre := pre) (c := x) (by omega), wrap_of (by omega) (by omega), show pre ++ x :: iota (x + 1) n = (pre ++ [x]) ++ iota (x + 1) n by simp]
    refine ev_eq (ih (pre ++ [x]) (x + 1) (by omega) (by omega) (by simp; omega)) ?_
    omega
theorem held_ev (n : Nat) (x : Int) (h0 : 0 ≤ x) (h1 : x + n ≤ 4611686018427387904) : Ev (fun k => laws_heldIntS.f k (iota x n) x) (x + n) := by
  unfold laws_heldIntS.f
  have := held_l n [] x h0 h1 (by simp; omega)
  simpa using this

/-! ### shape -/
theorem spec_shape_in (l : List Int) (hl : l.length ≤ 7) (x : Int) (i : Int) (hi : 0 ≤ i ∧ i < l.length) (hx : rd l i = x) (out R : List Int) (ho : out.length ≤ 7) : ∀ (suf pre : List Int) (a : Int), l = pre ++ suf → 0 ≤ a → a + suf.length ≤ 100 → Ev (fun k => spec_l3Shape.l0 k l (out ++ [a + lessN x suf]) (wrap64 (i + 1))) R → Ev (fun k => spec_l3Shape.l1 k l out i a (pre.length : Int)) R := by
  intro suf
  induction suf with
  | nil =>
    intro pre a e h0 h1 hR
    have h := len_end e
    refine ev_succ ?_
    simp only [spec_l3Shape.l1.eq_2]
    refine ev_neg (by omega) (ev_pos (by omega) ?_)
    simpa [lessN] using hR
  | cons c suf ih =>
    intro pre a e h0 h1 hR
    have h := len_mid e
    simp only [List.length_cons] at h1
    refine ev_succ ?_
    simp only [spec_l3Shape.l1.eq_2, rd_mid' e, hx]
    rw [wrap_snoc (pre := pre) (c := c) (by omega)]
    refine ev_pos (by omega) (ev_pos (by omega) (ev_pos (by omega) (ev_pos (by omega) ?_)))
    rw [lessN_cons] at hR
    by_cases hc : c < x
    · refine ev_pos hc ?_
      rw [wrap_of (x := a + 1) (by omega) (by omega)]
      refine ih _ _ (snoc_mid e) (by omega) (by omega) ?_
      rw [if_pos hc] at hR
      rwa [show a + 1 + (lessN x suf : Int) = a + ((1 + lessN x suf : Nat) : Int) by omega]
    · refine ev_neg hc (ih _ _ (snoc_mid e) (by omega) (by omega) ?_)
      rw [if_neg hc] at hR
      simpa using hR
theorem spec_shape_l (l : List Int) (hl : l.length ≤ 7) : ∀ (suf pre out : List Int), l = pre ++ suf → out.length = pre.length → Ev (fun k => spec_l3Shape.l0 k l out (pre.length : Int)) (out ++ suf.map (fun x => ((1 + lessN x l : Nat) : Int))) := by
  intro suf
  induction suf with
  | nil =>
    intro pre out e ho
    have h := len_end e
    refine ev_succ ?_
    simp only [spec_l3Shape.l0.eq_2]
    exact ev_neg (by omega) (ev_now (by simp))
  | cons c suf ih =>
    intro pre out e ho
    have h := len_mid e
    refine ev_succ ?_
    simp only [spec_l3Shape.l0.eq_2]
    refine ev_pos (by omega) (spec_shape_in l hl c _ ⟨by omega, by omega⟩ (rd_mid' e) out _ (by omega) l [] 1 rfl (by omega) (by omega) ?_)
    rw [wrap_snoc (pre := pre) (c := c) (by omega)]
    refine ev_eq (ih _ _ (snoc_mid e) ?_) ?_
    · simp [ho]
    · simp
theorem spec_shape_ev (l : List Int) (hl : l.length ≤ 7) : Ev (fun k => spec_l3Shape.f k l) (shapeL l) := by
  unfold spec_l3Shape.f shapeL
  exact spec_shape_l l hl l [] [] rfl rfl

/-! ### all choices, as the reference lists them -/
theorem own_ev (l : List Int) (h : l.length ≤ 1000000) : Ev (fun _ => spec_l1Own.f l) l := by
  unfold spec_l1Own.f
  exact ev_let (ev_pos (by simp; omega) (ev_now (by simp)))
theorem choices_f (n many : Nat) (hn : n ≤ 7) (r : Nat) (L : ∀ (done : List Int) (acc : List (List Int)), done.length + r ≤ n → acc.length + (chL n many r done).length ≤ 1000 → Ev (fun k => spec_l3Choices.l0 k done (n : Int) (many : Int) acc ((n - r : Nat) : Int)) (acc ++ chL n many r done)) :
    ∀ (done : List Int), done.length + r ≤ n → (done = [] ∧ r = n ∨ ∃ d, ∃ x : Int, done = d ++ [x] ∧ x + 1 = ((n - r : Nat) : Int)) → Ev (fun k => spec_l3Choices.f k done (n : Int) (many : Int)) (chA n many r done) := by
  intro done hd hl
  have hb := chL_bound n many r done (by omega)
  refine ev_succ ?_
  simp only [spec_l3Choices.f.eq_2]
  unfold chA
  by_cases hm : done.length = many
  · rw [if_pos hm]; exact ev_pos (by omega) (ev_now rfl)
  · rw [if_neg hm]
    have J : ∀ x : Int, x = ((n - r : Nat) : Int) → Ev (fun k => spec_l3Choices.j0 k done (n : Int) (many : Int) [] x) (chL n many r done) := by
      intro x hx
      refine ev_succ ?_
      simp only [spec_l3Choices.j0.eq_2]
      rw [hx]
      exact ev_eq (L done [] hd (by simp; omega)) (by simp)
    refine ev_neg (by omega) (ev_let ?_)
    rcases hl with ⟨rfl, rfl⟩ | ⟨d, x, rfl, hx⟩
    · exact ev_neg (by simp) (J 0 (by simp))
    · have h1 : ((d ++ [x]).length : Int) = (d.length : Int) + 1 := by simp
      have h2 : rd (d ++ [x]) (((d ++ [x]).length : Int) - 1) = x := by simp [rd]
      rw [wrap_of (x := ((d ++ [x]).length : Int) - 1) (by simp at hd; omega) (by simp at hd; omega), h2]
      exact ev_pos (by omega) (ev_pos (by omega) (ev_pos (by omega) (J _ (by rw [wrap_of (by omega) (by omega)]; exact hx))))
theorem choices_l (n many : Nat) (hn : n ≤ 7) : ∀ (r : Nat), r ≤ n →
    (∀ (done : List Int) (acc : List (List Int)), done.length + r ≤ n → acc.length + (chL n many r done).length ≤ 1000 → Ev (fun k => spec_l3Choices.l0 k done (n : Int) (many : Int) acc ((n - r : Nat) : Int)) (acc ++ chL n many r done)) ∧
    (∀ (done : List Int), done.length + r ≤ n → (done = [] ∧ r = n ∨ ∃ d, ∃ x : Int, done = d ++ [x] ∧ x + 1 = ((n - r : Nat) : Int)) → Ev (fun k => spec_l3Choices.f k done (n : Int) (many : Int)) (chA n many r done)) := by
  intro r
  induction r with
  | zero =>
    intro hr
    have L : ∀ (done : List Int) (acc : List (List Int)), done.length + 0 ≤ n → acc.length + (chL n many 0 done).length ≤ 1000 → Ev (fun k => spec_l3Choices.l0 k done (n : Int) (many : Int) acc ((n - 0 : Nat) : Int)) (acc ++ chL n many 0 done) := by
      intro done acc _ _
      refine ev_succ ?_
      simp only [spec_l3Choices.l0.eq_2]
      exact ev_neg (by omega) (ev_now (by simp [chL]))
    exact ⟨L, fun done hd hl => choices_f n many hn 0 L done hd hl⟩
  | succ r ih =>
    intro hr
    obtain ⟨ih1, ih2⟩ := ih (by omega)
    have L : ∀ (done : List Int) (acc : List (List Int)), done.length + (r + 1) ≤ n → acc.length + (chL n many (r + 1) done).length ≤ 1000 → Ev (fun k => spec_l3Choices.l0 k done (n : Int) (many : Int) acc ((n - (r + 1) : Nat) : Int)) (acc ++ chL n many (r + 1) done) := by
      intro done acc hd ha
      rw [chL_succ] at ha ⊢
      rw [List.length_append] at ha
      refine ev_succ ?_
      simp only [spec_l3Choices.l0.eq_2]
      rw [wrap_of (x := ((n - (r + 1) : Nat) : Int) + 1) (by omega) (by omega), show ((n - (r + 1) : Nat) : Int) + 1 = ((n - r : Nat) : Int) by omega]
      refine ev_pos (by omega) (ev_bind (own_ev done (by omega)) (ev_pos (by omega) (ev_bind (ih2 (done ++ [((n - (r + 1) : Nat) : Int)]) (by simp; omega) (.inr ⟨done, _, rfl, by omega⟩)) (ev_pos (by omega) ?_))))
      refine ev_eq (ih1 done _ (by omega) (by rw [List.length_append]; omega)) ?_
      rw [List.append_assoc]
    exact ⟨L, fun done hd hl => choices_f n many hn (r + 1) L done hd hl⟩

theorem spec_at_l (l xs : List Int) (hl : xs.length ≤ 7) (hq : ∀ x ∈ xs, 0 ≤ x ∧ x < (l.length : Int)) : ∀ (suf pre out : List Int), xs = pre ++ suf → out.length = pre.length → Ev (fun k => spec_l3At.l0 k l xs out (pre.length : Int)) (out ++ atG l suf) := by
  intro suf
  induction suf with
  | nil =>
    intro pre out e ho
    have h := len_end e
    refine ev_succ ?_
    simp only [spec_l3At.l0.eq_2]
    exact ev_neg (by omega) (ev_now (by simp [atG]))
  | cons c suf ih =>
    intro pre out e ho
    have h := len_mid e
    have hc := hq c (by rw [e]; simp)
    refine ev_succ ?_
    simp only [spec_l3At.l0.eq_2, rd_mid' e]
    rw [wrap_snoc (pre := pre) (c := c) (by omega)]
    refine ev_pos (by omega) (ev_pos (by omega) (ev_pos (by omega) (ev_pos (by omega) (ev_pos (by omega) (ev_eq (ih _ _ (snoc_mid e) (by simp [ho])) ?_)))))
    simp [atG]
theorem spec_at_ev (l xs : List Int) (hl : xs.length ≤ 7) (hq : ∀ x ∈ xs, 0 ≤ x ∧ x < (l.length : Int)) : Ev (fun k => spec_l3At.f k l xs) (atG l xs) := by
  unfold spec_l3At.f
  exact spec_at_l l xs hl hq xs [] [] rfl rfl

/-! ### the places of a pattern, as the reference lists them -/
def hit (l p xs : List Int) : Bool := decide (shapeL (atG l xs) = p)
theorem places_l (l p : List Int) (hl : l.length ≤ 7) (hp : p.length ≤ 7) (rows : List (List Int)) (hr : rows.length ≤ 200) (hrow : ∀ xs ∈ rows, xs.length = p.length ∧ ∀ x ∈ xs, 0 ≤ x ∧ x < (l.length : Int)) : ∀ (suf pre out : List (List Int)), rows = pre ++ suf → out.length ≤ pre.length → Ev (fun k => spec_l3Places.l0 k l p out rows (pre.length : Int)) (out ++ suf.filter (hit l p)) := by
  intro suf
  induction suf with
  | nil =>
    intro pre out e ho
    have h := len_end e
    refine ev_succ ?_
    simp only [spec_l3Places.l0.eq_2]
    exact ev_neg (by omega) (ev_now (by simp))
  | cons c suf ih =>
    intro pre out e ho
    have h := len_mid e
    obtain ⟨hc1, hc2⟩ := hrow c (by rw [e]; simp)
    have hrd : rd_L1 rows (pre.length : Int) = c := by rw [e]; simp [rd_L1]
    refine ev_succ ?_
    simp only [spec_l3Places.l0.eq_2, hrd]
    rw [wrap_snoc (pre := pre) (c := c) (by omega)]
    have hal : (atG l c).length ≤ 7 := by simp [atG]; omega
    have hsl : (shapeL (atG l c)).length ≤ 7 := by simp [shapeL]; omega
    refine ev_pos (by omega) (ev_pos (by omega) (ev_bind (spec_at_ev l c (by omega) hc2) (ev_bind (spec_shape_ev _ hal) (ev_bind (same_ev _ p (by omega)) ?_))))
    by_cases hh : shapeL (atG l c) = p
    · refine ev_pos (decide_eq_true hh) (ev_pos (by omega) (ev_eq (ih _ _ (snoc_mid e) (by simp; omega)) ?_))
      rw [List.filter_cons, if_pos (show hit l p c = true from decide_eq_true hh)]; simp
    · refine ev_neg (by simpa using hh) (ev_eq (ih _ _ (snoc_mid e) (by simp; omega)) ?_)
      rw [List.filter_cons, if_neg (show ¬ hit l p c = true by simpa [hit] using hh)]
theorem places_ev (l p : List Int) (hl : l.length ≤ 7) (hp : p.length ≤ 7) : Ev (fun k => spec_l3Places.f k l p) ((chA l.length p.length l.length []).filter (hit l p)) := by
  unfold spec_l3Places.f
  have h1 := (choices_l l.length p.length hl l.length (Nat.le_refl _)).2 [] (by simp) (.inl ⟨rfl, rfl⟩)
  have hb := chA_bound l.length p.length l.length [] hl
  have h2 := places_l l p hl hp (chA l.length p.length l.length []) (by omega) (fun xs hx => chA_mem _ _ xs hx) _ [] [] rfl (Nat.le_refl _)
  rw [List.nil_append] at h2
  exact ev_bind h1 h2

/-! ### choose, where the callback stops it at the first hit -/
def foundR (o : Option (List Int)) (p : (List Int × Bool) × Bool) : Prop :=
  match o with
  | some xs => p = ((xs, true), true)
  | none => p.1.2 = false ∧ p.2 = false
theorem loopG_find {h : List Int → Bool} {f : List Int × Bool → List Int → (List Int × Bool) × Bool} (hf : ∀ s xs, f s xs = ((xs, h xs), h xs)) (n many : Nat) :
    ∀ (r : Nat) (done : List Int) (s : List Int × Bool), s.2 = false → foundR ((chL n many r done).find? h) (loopG f n many r done s) := by
  intro r
  induction r with
  | zero => intro done s hs; exact ⟨hs, rfl⟩
  | succ r ih =>
    intro done s hs
    simp only [loopG, chL, List.find?_append]
    by_cases hm : done.length + 1 = many
    · rw [if_pos hm, if_pos hm, hf]
      by_cases hh : h (done ++ [((n - (r + 1) : Nat) : Int)]) = true
      · rw [hh]; simp [hh, foundR]
      · have hh : h (done ++ [((n - (r + 1) : Nat) : Int)]) = false := by simpa using hh
        rw [hh]
        simp only [List.find?_cons, hh, List.find?_nil, Bool.false_eq_true, if_false, Option.none_or]
        exact ih done _ rfl
    · rw [if_neg hm, if_neg hm]
      have h1 := ih (done ++ [((n - (r + 1) : Nat) : Int)]) s hs
      cases he : (chL n many r (done ++ [((n - (r + 1) : Nat) : Int)])).find? h with
      | some xs =>
        rw [he] at h1
        simp only [foundR] at h1
        rw [h1]; simp [foundR]
      | none =>
        rw [he] at h1
        obtain ⟨h2, h3⟩ := h1
        rw [h3]
        simp only [Bool.false_eq_true, if_false, Option.none_or]
        exact ih done _ h2
theorem addG_find {h : List Int → Bool} {f : List Int × Bool → List Int → (List Int × Bool) × Bool} (hf : ∀ s xs, f s xs = ((xs, h xs), h xs)) (n many r : Nat) (done : List Int) (s : List Int × Bool) (hs : s.2 = false) : foundR ((chA n many r done).find? h) (addG f n many r done s) := by
  unfold addG chA
  by_cases hm : done.length = many
  · rw [if_pos hm, if_pos hm, hf]
    by_cases hh : h done = true
    · rw [hh]; simp [hh, foundR]
    · have hh : h done = false := by simpa using hh
      rw [hh]; simp [hh, foundR]
  · rw [if_neg hm, if_neg hm]; exact loopG_find hf n many r done s hs
def firstR (l p : List Int) : List Int × Bool :=
  match (chA l.length p.length l.length []).find? (hit l p) with
  | some xs => (xs, true)
  | none => ([], false)
theorem fpR_eq (l p : List Int) : fpR l p = firstR l p := by
  have h := addG_find (h := hit l p) (f := fpF l p) (fun s xs => rfl) l.length p.length l.length [] ([], false) rfl
  unfold fpR fpG firstR
  cases he : (chA l.length p.length l.length []).find? (hit l p) with
  | some xs => rw [he] at h; simp only [foundR] at h; rw [h]; rfl
  | none => rw [he] at h; obtain ⟨h2, _⟩ := h; rw [h2]; rfl
theorem impl_first_ev (l p : List Int) (hl : l.length ≤ 7) (hp : p.length ≤ 7) : Ev (fun _ => impl_firstPlaces.f l p) (firstR l p) := by
  unfold impl_firstPlaces.f
  exact ev_pos ⟨hl, hp⟩ (ev_now (fpR_eq l p))
theorem firstR_len (l p : List Int) : (firstR l p).1.length ≤ p.length := by
  unfold firstR
  cases he : (chA l.length p.length l.length []).find? (hit l p) with
  | some xs => exact Nat.le_of_eq (chA_mem _ _ xs (List.mem_of_find?_eq_some he)).1
  | none => exact Nat.zero_le _

theorem good_ev (a b : List Int) (ha : a.length ≤ 140737488351232) (hb : b.length ≤ 140737488351232) : Ev (fun k => spec_l3Good.f k a b) (isOrd a && isOrd b) := by
  unfold spec_l3Good.f
  refine ev_bind (spec_order_ev a ha) ?_
  by_cases h1 : isOrd a = true
  · exact ev_pos h1 (ev_bind (spec_order_ev b hb) (ev_now (by rw [h1]; rfl)))
  · exact ev_neg h1 (ev_now (by simp [h1]))

/-- The law's frame: two lists; where both sides come to one list. -/
theorem law_frame2 (a b out : List Int) (q : Bool) (ha : a.length * 8 ≤ 140737488351232) (hb : b.length * 8 ≤ 140737488351232) (ho : out.length ≤ 1000000)
    (hs : Ev (fun k => spec_FirstPlaces.f k a b) (out, q)) (hi : Ev (fun k => impl_FirstPlaces.f k a b) (out, q)) : Ev (fun k => laws_FnExactFirstPlaces.f k a b) true := by
  unfold laws_FnExactFirstPlaces.f
  by_cases h1 : (a.length : Int) > 1048576
  · exact ev_pos h1 (ev_now rfl)
  refine ev_neg h1 ?_
  by_cases h2 : (b.length : Int) > 1048576
  · exact ev_pos h2 (ev_now rfl)
  refine ev_neg h2 (ev_bind (toInt_ev a ha) (ev_bind (toInt_ev b hb) (ev_bind hs (ev_bind (toInt_ev a ha) (ev_bind (toInt_ev b hb) (ev_bind hi (ev_bind (eqInt_ev out out (by omega)) (ev_pos (by simp) ?_))))))))
  refine ev_succ ?_
  simp only [laws_FnExactFirstPlaces.j0.eq_2]
  refine ev_neg (by simp) (ev_bind (toInt_ev a ha) (ev_bind (eqInt_ev a a ha) (ev_pos (by simp) (ev_bind (toInt_ev b hb) (ev_bind (eqInt_ev b b hb) (ev_pos (by simp) ?_))))))
  refine ev_bind (mark_ev a 1 (by omega) (by omega)) (ev_bind (mark_ev b _ (by omega) (by omega)) (ev_neg (by omega) (ev_bind (eqInt_ev out out (by omega)) (ev_pos (by simp) ?_))))
  refine ev_succ ?_
  simp only [laws_FnExactFirstPlaces.j1.eq_2]
  refine ev_neg (by simp) (ev_bind (mark_ev out 1 (by omega) (by omega)) (ev_bind (held_ev _ 1 (by omega) (by omega)) (ev_neg (by omega) (ev_pos rfl (ev_bind (toInt_ev a ha) (ev_bind (toInt_ev b hb) (ev_bind hi (ev_bind (eqInt_ev out out (by omega)) (ev_pos (by simp) ?_)))))))))
  refine ev_succ ?_
  simp only [laws_FnExactFirstPlaces.j2.eq_2]
  exact ev_neg (by simp) (ev_bind (held_ev _ 1 (by omega) (by omega)) (ev_neg (by omega) (ev_pos rfl (ev_now rfl))))

def fplR (a b : List Int) : List Int × Bool := if isOrd a = true ∧ isOrd b = true then firstR a b else ([], false)
theorem spec_ev (a b : List Int) (ha : a.length ≤ 140737488351232) (hb : b.length ≤ 140737488351232) : Ev (fun k => spec_FirstPlaces.f k a b) (fplR a b) := by
  unfold spec_FirstPlaces.f fplR
  refine ev_bind (good_ev a b ha hb) ?_
  by_cases h : isOrd a = true ∧ isOrd b = true
  · rw [if_pos h]
    refine ev_pos (by simp [h.1, h.2]) (ev_bind (places_ev a b (ord_len h.1).2 (ord_len h.2).2) ?_)
    have hh := List.head?_filter (p := hit a b) (l := chA a.length b.length a.length [])
    unfold firstR
    cases hf : (chA a.length b.length a.length []).filter (hit a b) with
    | nil =>
      rw [hf] at hh
      rw [← hh]
      exact ev_pos (by simp) (ev_now rfl)
    | cons c t =>
      rw [hf] at hh
      rw [← hh]
      exact ev_neg (by simp; omega) (ev_pos (by simp) (ev_now rfl))
  · rw [if_neg h]
    exact ev_neg (by simpa using h) (ev_now rfl)
theorem impl_ev (a b : List Int) (ha : a.length ≤ 140737488351232) (hb : b.length ≤ 140737488351232) : Ev (fun k => impl_FirstPlaces.f k a b) (fplR a b) := by
  unfold impl_FirstPlaces.f fplR
  refine ev_bind (impl_order_ev a ha) ?_
  by_cases h1 : isOrd a = true
  · refine ev_pos h1 (ev_bind (impl_order_ev b hb) ?_)
    by_cases h2 : isOrd b = true
    · exact ev_pos h2 (ev_bind (impl_first_ev a b (ord_len h1).2 (ord_len h2).2) (ev_now (by rw [if_pos ⟨h1, h2⟩])))
    · exact ev_neg h2 (ev_now (by rw [if_neg (fun h => h2 h.2)]))
  · exact ev_neg h1 (ev_now (by rw [if_neg (fun h => h1 h.1)]))
theorem FnExactFirstPlaces : laws_FnExactFirstPlaces.Pure := by
  intro a b hma ha hwa hmb hb hwb
  apply Ev.rounds (r := true)
  refine law_frame2 a b (fplR a b).1 (fplR a b).2 ha hb ?_ (spec_ev a b (len_max ha) (len_max hb)) (impl_ev a b (len_max ha) (len_max hb))
  unfold fplR
  split
  · rename_i h; have := firstR_len a b; have := (ord_len h.2).2; omega
  · simp
end Go.Proofs.Ytdiecblalplalaa.Pure
