/- The pure statement of FnExactCountPlaces: program and reference count the same places. No condition. -/
import Derived.Test.YtdiecblalplalaaMFnExactCountPlacesx5
import Derived.Test.YtdiecblalplalaaBase
import Derived.Test.YtdiecblalplalaaBaseP
import Derived.Test.YtdiecblalplalaaBaseN
namespace Go.Proofs.Ytdiecblalplalaa.Pure
open Go Go.RowKit Go.Proofs.Ytdiecblalplalaa.MFnExactCountPlaces Go.Proofs.YtdiecblalplalaaW.PrintWords Go.Proofs.Ytdiecblalplalaa.Base
set_option linter.unusedVariables false
set_option linter.unusedSimpArgs false
/-! ### laws.toIntS, laws.eqIntS -/
theorem toInt_l (l : List Int) (hl : l.length * 8 ≤ 140737488351232) : ∀ (suf pre : List Int), l = pre ++ suf → Ev (fun k => laws_toIntS.l0 k l (pre ++ List.replicate suf.length 0) (pre.length : Int)) l := by
  intro suf
  induction suf with
  | nil =>
    intro pre e
    have h := len_end e
    refine ev_succ ?_
    simp only [laws_toIntS.l0.eq_2]
    refine ev_neg (by omega) ?_
    exact ev_now (by rw [e]; simp)
  | cons c suf ih =>
    intro pre e
    have h := len_mid e
    refine ev_succ ?_
    simp only [laws_toIntS.l0.eq_2, rd_mid' e]
    refine ev_pos (by omega) (ev_pos (by omega) (ev_pos (by simp; omega) ?_))
    rw [wrap_snoc (pre := pre) (c := c) (by omega)]
    have e2 : (pre ++ List.replicate (c :: suf).length 0).set ((pre.length : Int)).toNat c = (pre ++ [c]) ++ List.replicate suf.length 0 := by
      simp [List.replicate_succ]
    rw [e2]
    exact ih _ (snoc_mid e)
theorem toInt_ev (l : List Int) (hl : l.length * 8 ≤ 140737488351232) : Ev (fun k => laws_toIntS.f k l) l := by
  unfold laws_toIntS.f
  refine ev_pos (by omega) (ev_pos (by omega) ?_)
  have := toInt_l l hl l [] rfl
  simpa using this

theorem eqInt_l (a b : List Int) (hl : a.length * 8 ≤ 140737488351232) : ∀ (s t pre q : List Int), a = pre ++ s → b = q ++ t → pre.length = q.length → s.length = t.length → Ev (fun k => laws_eqIntS.l0 k a b (pre.length : Int)) (decide (s = t)) := by
  intro s
  induction s with
  | nil =>
    intro t pre q e e' h1 h2
    have h := len_end e
    obtain rfl : t = [] := by cases t with
      | nil => rfl
      | cons _ _ => simp at h2
    refine ev_succ ?_
    simp only [laws_eqIntS.l0.eq_2]
    refine ev_neg (by omega) ?_
    exact ev_now (by simp)
  | cons c s ih =>
    intro t pre q e e' h1 h2
    cases t with
    | nil => simp at h2
    | cons d t =>
    have h := len_mid e
    have h' := len_mid e'
    refine ev_succ ?_
    have r1 := rd_mid' e
    have r2 := rd_mid' e'
    rw [← h1] at r2
    simp only [laws_eqIntS.l0.eq_2, r1, r2]
    refine ev_pos (by omega) (ev_pos (by omega) (ev_pos (by omega) ?_))
    by_cases hc : c = d
    · refine ev_pos hc ?_
      rw [wrap_snoc (pre := pre) (c := c) (by omega)]
      refine ev_eq (ih t (pre ++ [c]) (q ++ [d]) (snoc_mid e) (snoc_mid e') (by simp [h1]) (by simpa using h2)) ?_
      simp [hc]
    · refine ev_neg hc (ev_now ?_)
      simp [hc]
theorem eqInt_ev (a b : List Int) (hl : a.length * 8 ≤ 140737488351232) : Ev (fun k => laws_eqIntS.f k a b) (decide (a = b)) := by
  unfold laws_eqIntS.f
  by_cases h : a.length = b.length
  · refine ev_pos (by omega) ?_
    exact eqInt_l a b hl a b [] [] rfl rfl rfl h
  · refine ev_neg (by omega) (ev_now ?_)
    symm
    exact decide_eq_false (fun e => h (by rw [e]))

theorem same_l (a b : List Int) (hl : a.length * 8 ≤ 140737488351232) : ∀ (s t pre q : List Int), a = pre ++ s → b = q ++ t → pre.length = q.length → s.length = t.length → Ev (fun k => spec_l1Same.l0 k a b (pre.length : Int)) (decide (s = t)) := by
  intro s
  induction s with
  | nil =>
    intro t pre q e e' h1 h2
    have h := len_end e
    obtain rfl : t = [] := by cases t with
      | nil => rfl
      | cons _ _ => simp at h2
    refine ev_succ ?_
    simp only [spec_l1Same.l0.eq_2]
    refine ev_neg (by omega) ?_
    exact ev_now (by simp)
  | cons c s ih =>
    intro t pre q e e' h1 h2
    cases t with
    | nil => simp at h2
    | cons d t =>
    have h := len_mid e
    have h' := len_mid e'
    refine ev_succ ?_
    have r1 := rd_mid' e
    have r2 := rd_mid' e'
    rw [← h1] at r2
    simp only [spec_l1Same.l0.eq_2, r1, r2]
    refine ev_pos (by omega) (ev_pos (by omega) (ev_pos (by omega) ?_))
    by_cases hc : c = d
    · refine ev_pos hc ?_
      rw [wrap_snoc (pre := pre) (c := c) (by omega)]
      refine ev_eq (ih t (pre ++ [c]) (q ++ [d]) (snoc_mid e) (snoc_mid e') (by simp [h1]) (by simpa using h2)) ?_
      simp [hc]
    · refine ev_neg hc (ev_now ?_)
      simp [hc]
theorem same_ev (a b : List Int) (hl : a.length * 8 ≤ 140737488351232) : Ev (fun k => spec_l1Same.f k a b) (decide (a = b)) := by
  unfold spec_l1Same.f
  by_cases h : a.length = b.length
  · refine ev_pos (by omega) ?_
    exact same_l a b hl a b [] [] rfl rfl rfl h
  · refine ev_neg (by omega) (ev_now ?_)
    symm
    exact decide_eq_false (fun e => h (by rw [e]))

/-! ### Is it an order? -/
theorem in_ev (a b c : Int) : Ev (fun _ => spec_l1In.f a b c) (decide (b ≤ a) && decide (a ≤ c)) := by
  unfold spec_l1In.f
  by_cases h : a ≥ b
  · refine ev_pos h (ev_now ?_)
    have : decide (b ≤ a) = true := decide_eq_true h
    rw [this]; rfl
  · refine ev_neg h (ev_now ?_)
    have : decide (b ≤ a) = false := decide_eq_false (by omega)
    rw [this]; rfl

theorem has_l (l : List Int) (x : Int) (hl : l.length ≤ 140737488351232) : ∀ (suf pre : List Int), l = pre ++ suf → Ev (fun k => spec_l1Has.l0 k l x (pre.length : Int)) (decide (x ∈ suf)) := by
  intro suf
  induction suf with
  | nil =>
    intro pre e
    have h := len_end e
    refine ev_succ ?_
    simp only [spec_l1Has.l0.eq_2]
    refine ev_neg (by omega) ?_
    exact ev_now (by simp)
  | cons c suf ih =>
    intro pre e
    have h := len_mid e
    refine ev_succ ?_
    simp only [spec_l1Has.l0.eq_2, rd_mid' e]
    refine ev_pos (by omega) (ev_pos (by omega) ?_)
    by_cases hc : c = x
    · exact ev_pos hc (ev_now (by simp [hc]))
    · refine ev_neg hc ?_
      rw [wrap_snoc (pre := pre) (c := c) (by omega)]
      refine ev_eq (ih _ (snoc_mid e)) ?_
      have : x ≠ c := fun h => hc h.symm
      simp [this]
theorem has_ev (l : List Int) (x : Int) (hl : l.length ≤ 140737488351232) : Ev (fun k => spec_l1Has.f k l x) (decide (x ∈ l)) := by
  unfold spec_l1Has.f
  exact has_l l x hl l [] rfl
theorem idx_l (l : List Int) (x : Int) (hl : l.length ≤ 140737488351232) : ∀ (suf pre : List Int), l = pre ++ suf → Ev (fun k => slices_Index_int_int.l0 k l x (l.length : Int) (pre.length : Int)) (if x ∈ suf then ((pre.length + suf.idxOf x : Nat) : Int) else -1) := by
  intro suf
  induction suf with
  | nil =>
    intro pre e
    have h := len_end e
    refine ev_succ ?_
    simp only [slices_Index_int_int.l0.eq_2]
    refine ev_neg (by omega) ?_
    exact ev_now (by simp)
  | cons c suf ih =>
    intro pre e
    have h := len_mid e
    refine ev_succ ?_
    simp only [slices_Index_int_int.l0.eq_2, rd_mid' e]
    refine ev_pos (by omega) (ev_pos (by omega) (ev_pos (by omega) ?_))
    by_cases hc : x = c
    · exact ev_pos hc (ev_now (by simp [hc]))
    · refine ev_neg hc ?_
      rw [wrap_snoc (pre := pre) (c := c) (by omega)]
      refine ev_eq (ih _ (snoc_mid e)) ?_
      have hc' : ¬ c = x := fun h => hc h.symm
      have hb : (c == x) = false := by simpa using hc'
      simp only [List.mem_cons, hc, false_or, List.idxOf_cons, hb, cond_false]
      by_cases hm : x ∈ suf
      · rw [if_pos hm, if_pos hm]; simp; omega
      · rw [if_neg hm, if_neg hm]
theorem idx_ev (l : List Int) (x : Int) (hl : l.length ≤ 140737488351232) : Ev (fun k => slices_Index_int_int.f k l x) (if x ∈ l then ((l.idxOf x : Nat) : Int) else -1) := by
  unfold slices_Index_int_int.f
  simpa using idx_l l x hl l [] rfl
theorem contains_ev (l : List Int) (x : Int) (hl : l.length ≤ 140737488351232) : Ev (fun k => slices_Contains_int_int.f k l x) (decide (x ∈ l)) := by
  unfold slices_Contains_int_int.f
  refine ev_bind (idx_ev l x hl) (ev_now ?_)
  by_cases h : x ∈ l
  · simp [h]
  · simp [h]

theorem spec_order_l (l : List Int) (hl : l.length ≤ 140737488351232) : ∀ (suf pre : List Int), l = pre ++ suf → Ev (fun k => spec_l2Order.l0 k l (pre.length : Int)) (ordGo (l.length : Int) pre suf) := by
  intro suf
  induction suf with
  | nil =>
    intro pre e
    have h := len_end e
    refine ev_succ ?_
    simp only [spec_l2Order.l0.eq_2]
    refine ev_neg (by omega) ?_
    exact ev_now rfl
  | cons c suf ih =>
    intro pre e
    have h := len_mid e
    refine ev_succ ?_
    simp only [spec_l2Order.l0.eq_2, rd_mid' e, take_mid e]
    refine ev_pos (by omega) (ev_pos (by omega) (ev_bind (in_ev _ _ _) ?_))
    by_cases hr : 1 ≤ c ∧ c ≤ (l.length : Int)
    · refine ev_pos (by simp [hr.1, hr.2]) (ev_pos (by omega) (ev_bind (has_ev pre c (by omega)) ?_))
      by_cases hc : c ∈ pre
      · exact ev_pos (by simp [hc]) (ev_now (by simp [ordGo, hc]))
      · refine ev_neg (by simp [hc]) ?_
        rw [wrap_snoc (pre := pre) (c := c) (by omega)]
        refine ev_eq (ih _ (snoc_mid e)) ?_
        simp [ordGo, hr.1, hr.2, hc]
    · refine ev_neg (by simp; omega) (ev_now ?_)
      simp only [ordGo]
      rw [if_neg (fun h => hr ⟨h.1, h.2.1⟩)]
theorem spec_order_ev (l : List Int) (hl : l.length ≤ 140737488351232) : Ev (fun k => spec_l2Order.f k l) (isOrd l) := by
  unfold spec_l2Order.f
  refine ev_bind (in_ev _ _ _) ?_
  unfold isOrd
  by_cases h : 1 ≤ l.length ∧ l.length ≤ 7
  · refine ev_pos (by simp; omega) ?_
    rw [if_pos h]
    exact spec_order_l l hl l [] rfl
  · refine ev_neg (by simp; omega) (ev_now ?_)
    rw [if_neg h]
theorem impl_order_l (l : List Int) (hl : l.length ≤ 140737488351232) : ∀ (suf pre : List Int), l = pre ++ suf → Ev (fun k => impl_isOrder.l0 k l l (l.length : Int) (pre.length : Int)) (ordGo (l.length : Int) pre suf) := by
  intro suf
  induction suf with
  | nil =>
    intro pre e
    have h := len_end e
    refine ev_succ ?_
    simp only [impl_isOrder.l0.eq_2]
    refine ev_neg (by omega) ?_
    exact ev_now rfl
  | cons c suf ih =>
    intro pre e
    have h := len_mid e
    refine ev_succ ?_
    simp only [impl_isOrder.l0.eq_2, rd_mid' e, take_mid e]
    refine ev_pos (by omega) (ev_pos (by omega) (ev_pos (by omega) ?_))
    by_cases h1 : c < 1
    · exact ev_pos h1 (ev_now (by simp only [ordGo]; rw [if_neg (fun h => by omega)]))
    refine ev_neg h1 ?_
    by_cases h2 : c > (l.length : Int)
    · exact ev_pos h2 (ev_now (by simp only [ordGo]; rw [if_neg (fun h => by omega)]))
    refine ev_neg h2 (ev_pos (by omega) (ev_bind (contains_ev pre c (by omega)) ?_))
    by_cases hc : c ∈ pre
    · exact ev_pos (by simp [hc]) (ev_now (by simp [ordGo, hc]))
    · refine ev_neg (by simp [hc]) ?_
      rw [wrap_snoc (pre := pre) (c := c) (by omega)]
      refine ev_eq (ih _ (snoc_mid e)) ?_
      simp only [ordGo]
      rw [if_pos ⟨by omega, by omega, hc⟩]
theorem impl_order_ev (l : List Int) (hl : l.length ≤ 140737488351232) : Ev (fun k => impl_isOrder.f k l) (isOrd l) := by
  have key : ∀ b : Bool, Ev (fun k => impl_isOrder.j0 k l b) (if b = true then false else ordGo (l.length : Int) [] l) := by
    intro b
    refine ev_succ ?_
    simp only [impl_isOrder.j0.eq_2]
    cases b with
    | true => exact ev_pos rfl (ev_now rfl)
    | false => exact ev_neg (by simp) (impl_order_l l hl l [] rfl)
  unfold impl_isOrder.f isOrd
  by_cases h1 : (l.length : Int) < 1
  · refine ev_pos h1 (ev_eq (key true) ?_)
    rw [if_pos rfl, if_neg (fun h => by omega)]
  · refine ev_neg h1 (ev_eq (key _) ?_)
    by_cases h2 : (l.length : Int) > 7
    · rw [if_neg (c := 1 ≤ l.length ∧ l.length ≤ 7) (fun h => by omega), if_pos (decide_eq_true h2)]
    · rw [if_pos (c := 1 ≤ l.length ∧ l.length ≤ 7) ⟨by omega, by omega⟩, if_neg (by simp; omega)]

/-! ### shape -/
theorem spec_shape_in (l : List Int) (hl : l.length ≤ 7) (x : Int) (i : Int) (hi : 0 ≤ i ∧ i < l.length) (hx : rd l i = x) (out R : List Int) (ho : out.length ≤ 7) : ∀ (suf pre : List Int) (a : Int), l = pre ++ suf → 0 ≤ a → a + suf.length ≤ 100 → Ev (fun k => spec_l3Shape.l0 k l (out ++ [a + lessN x suf]) (wrap64 (i + 1))) R → Ev (fun k => spec_l3Shape.l1 k l out i a (pre.length : Int)) R := by
  intro suf
  induction suf with
  | nil =>
    intro pre a e h0 h1 hR
    have h := len_end e
    refine ev_succ ?_
    simp only [spec_l3Shape.l1.eq_2]
    refine ev_neg (by omega) (ev_pos (by omega) ?_)
    simpa [lessN] using hR
  | cons c suf ih =>
    intro pre a e h0 h1 hR
    have h := len_mid e
    simp only [List.length_cons] at h1
    refine ev_succ ?_
    simp only [spec_l3Shape.l1.eq_2, rd_mid' e, hx]
    rw [wrap_snoc (pre := pre) (c := c) (by omega)]
    refine ev_pos (by omega) (ev_pos (by omega) (ev_pos (by omega) (ev_pos (by omega) ?_)))
    rw [lessN_cons] at hR
    by_cases hc : c < x
    · refine ev_pos hc ?_
      rw [wrap_of (x := a + 1) (by omega) (by omega)]
      refine ih _ _ (snoc_mid e) (by omega) (by omega) ?_
      rw [if_pos hc] at hR
      rwa [show a + 1 + (lessN x suf : Int) = a + ((1 + lessN x suf : Nat) : Int) by omega]
    · refine ev_neg hc (ih _ _ (snoc_mid e) (by omega) (by omega) ?_)
      rw [if_neg hc] at hR
      simpa using hR
theorem spec_shape_l (l : List Int) (hl : l.length ≤ 7) : ∀ (suf pre out : List Int), l = pre ++ suf → out.length = pre.length → Ev (fun k => spec_l3Shape.l0 k l out (pre.length : Int)) (out ++ suf.map (fun x => ((1 + lessN x l : Nat) : Int))) := by
  intro suf
  induction suf with
  | nil =>
    intro pre out e ho
    have h := len_end e
    refine ev_succ ?_
    simp only [spec_l3Shape.l0.eq_2]
    exact ev_neg (by omega) (ev_now (by simp))
  | cons c suf ih =>
    intro pre out e ho
    have h := len_mid e
    refine ev_succ ?_
    simp only [spec_l3Shape.l0.eq_2]
    refine ev_pos (by omega) (spec_shape_in l hl c _ ⟨by omega, by omega⟩ (rd_mid' e) out _ (by omega) l [] 1 rfl (by omega) (by omega) ?_)
    rw [wrap_snoc (pre := pre) (c := c) (by omega)]
    refine ev_eq (ih _ _ (snoc_mid e) ?_) ?_
    · simp [ho]
    · simp
theorem spec_shape_ev (l : List Int) (hl : l.length ≤ 7) : Ev (fun k => spec_l3Shape.f k l) (shapeL l) := by
  unfold spec_l3Shape.f shapeL
  exact spec_shape_l l hl l [] [] rfl rfl

/-! ### all choices, as the reference lists them -/
theorem own_ev (l : List Int) (h : l.length ≤ 1000000) : Ev (fun _ => spec_l1Own.f l) l := by
  unfold spec_l1Own.f
  exact ev_let (ev_pos (by simp; omega) (ev_now (by simp)))
theorem choices_f (n many : Nat) (hn : n ≤ 7) (r : Nat) (L : ∀ (done : List Int) (acc : List (List Int)), done.length + r ≤ n → acc.length + (chL n many r done).length ≤ 1000 → Ev (fun k => spec_l3Choices.l0 k done (n : Int) (many : Int) acc ((n - r : Nat) : Int)) (acc ++ chL n many r done)) :
    ∀ (done : List Int), done.length + r ≤ n → (done = [] ∧ r = n ∨ ∃ d, ∃ x : Int, done = d ++ [x] ∧ x + 1 = ((n - r : Nat) : Int)) → Ev (fun k => spec_l3Choices.f k done (n : Int) (many : Int)) (chA n many r done) := by
  intro done hd hl
  have hb := chL_bound n many r done (by omega)
  refine ev_succ ?_
  simp only [spec_l3Choices.f.eq_2]
  unfold chA
  by_cases hm : done.length = many
  · rw [if_pos hm]; exact ev_pos (by omega) (ev_now rfl)
  · rw [if_neg hm]
    have J : ∀ x : Int, x = ((n - r : Nat) : Int) → Ev (fun k => spec_l3Choices.j0 k done (n : Int) (many : Int) [] x) (chL n many r done) := by
      intro x hx
      refine ev_succ ?_
      simp only [spec_l3Choices.j0.eq_2]
      rw [hx]
      exact ev_eq (L done [] hd (by simp; omega)) (by simp)
    refine ev_neg (by omega) (ev_let ?_)
    rcases hl with ⟨rfl, rfl⟩ | ⟨d, x, rfl, hx⟩
    · exact ev_neg (by simp) (J 0 (by simp))
    · have h1 : ((d ++ [x]).length : Int) = (d.length : Int) + 1 := by simp
      have h2 : rd (d ++ [x]) (((d ++ [x]).length : Int) - 1) = x := by simp [rd]
      rw [wrap_of (x := ((d ++ [x]).length : Int) - 1) (by simp at hd; omega) (by simp at hd; omega), h2]
      exact ev_pos (by omega) (ev_pos (by omega) (ev_pos (by omega) (J _ (by rw [wrap_of (by omega) (by omega)]; exact hx))))
theorem choices_l (n many : Nat) (hn : n ≤ 7) : ∀ (r : Nat), r ≤ n →
    (∀ (done : List Int) (acc : List (List Int)), done.length + r ≤ n → acc.length + (chL n many r done).length ≤ 1000 → Ev (fun k => spec_l3Choices.l0 k done (n : Int) (many : Int) acc ((n - r : Nat) : Int)) (acc ++ chL n many r done)) ∧
    (∀ (done : List Int), done.length + r ≤ n → (done = [] ∧ r = n ∨ ∃ d, ∃ x : Int, done = d ++ [x] ∧ x + 1 = ((n - r : Nat) : Int)) → Ev (fun k => spec_l3Choices.f k done (n : Int) (many : Int)) (chA n many r done)) := by
  intro r
  induction r with
  | zero =>
    intro hr
    have L : ∀ (done : List Int) (acc : List (List Int)), done.length + 0 ≤ n → acc.length + (chL n many 0 done).length ≤ 1000 → Ev (fun k => spec_l3Choices.l0 k done (n : Int) (many : Int) acc ((n - 0 : Nat) : Int)) (acc ++ chL n many 0 done) := by
      intro done acc _ _
      refine ev_succ ?_
      simp only [spec_l3Choices.l0.eq_2]
      exact ev_neg (by omega) (ev_now (by simp [chL]))
    exact ⟨L, fun done hd hl => choices_f n many hn 0 L done hd hl⟩
  | succ r ih =>
    intro hr
    obtain ⟨ih1, ih2⟩ := ih (by omega)
    have L : ∀ (done : List Int) (acc : List (List Int)), done.length + (r + 1) ≤ n → acc.length + (chL n many (r + 1) done).length ≤ 1000 → Ev (fun k => spec_l3Choices.l0 k done (n : Int) (many : Int) acc ((n - (r + 1) : Nat) : Int)) (acc ++ chL n many (r + 1) done) := by
      intro done acc hd ha
      rw [chL_succ] at ha ⊢
      rw [List.length_append] at ha
      refine ev_succ ?_
      simp only [spec_l3Choices.l0.eq_2]
      rw [wrap_of (x := ((n - (r + 1) : Nat) : Int) + 1) (by omega) (by omega), show ((n - (r + 1) : Nat) : Int) + 1 = ((n - r : Nat) : Int) by omega]
      refine ev_pos (by omega) (ev_bind (own_ev done (by omega)) (ev_pos (by omega) (ev_bind (ih2 (done ++ [((n - (r + 1) : Nat) : Int)]) (by simp; omega) (.inr ⟨done, _, rfl, by omega⟩)) (ev_pos (by omega) ?_))))
      refine ev_eq (ih1 done _ (by omega) (by rw [List.length_append]; omega)) ?_
      rw [List.append_assoc]
    exact ⟨L, fun done hd hl => choices_f n many hn (r + 1) L done hd hl⟩

theorem spec_at_l (l xs : List Int) (hl : xs.length ≤ 7) (hq : ∀ x ∈ xs, 0 ≤ x ∧ x < (l.length : Int)) : ∀ (suf pre out : List Int), xs = pre ++ suf → out.length = pre.length → Ev (fun k => spec_l3At.l0 k l xs out (pre.length : Int)) (out ++ atG l suf) := by
  intro suf
  induction suf with
  | nil =>
    intro pre out e ho
    have h := len_end e
    refine ev_succ ?_
    simp only [spec_l3At.l0.eq_2]
    exact ev_neg (by omega) (ev_now (by simp [atG]))
  | cons c suf ih =>
    intro pre out e ho
    have h := len_mid e
    have hc := hq c (by rw [e]; simp)
    refine ev_succ ?_
    simp only [spec_l3At.l0.eq_2, rd_mid' e]
    rw [wrap_snoc (pre := pre) (c := c) (by omega)]
    refine ev_pos (by omega) (ev_pos (by omega) (ev_pos (by omega) (ev_pos (by omega) (ev_pos (by omega) (ev_eq (ih _ _ (snoc_mid e) (by simp [ho])) ?_)))))
    simp [atG]
theorem spec_at_ev (l xs : List Int) (hl : xs.length ≤ 7) (hq : ∀ x ∈ xs, 0 ≤ x ∧ x < (l.length : Int)) : Ev (fun k => spec_l3At.f k l xs) (atG l xs) := by
  unfold spec_l3At.f
  exact spec_at_l l xs hl hq xs [] [] rfl rfl

/-! ### choose, where the callback never stops it -/
theorem loopG_fold {σ : Type} (f : σ → List Int → σ × Bool) (hf : ∀ s xs, (f s xs).2 = false) (n many : Nat) : ∀ (r : Nat) (done : List Int) (s : σ), loopG f n many r done s = ((chL n many r done).foldl (fun s xs => (f s xs).1) s, false) := by
  intro r
  induction r with
  | zero => intro done s; rfl
  | succ r ih =>
    intro done s
    simp only [loopG, chL, List.foldl_append]
    by_cases h : done.length + 1 = many
    · rw [if_pos h, if_pos h, hf, if_neg (by simp), ih]; rfl
    · rw [if_neg h, if_neg h, ih, if_neg (by simp), ih]
theorem addG_fold {σ : Type} (f : σ → List Int → σ × Bool) (hf : ∀ s xs, (f s xs).2 = false) {n many r : Nat} {done : List Int} {s : σ} : addG f n many r done s = ((chA n many r done).foldl (fun s xs => (f s xs).1) s, false) := by
  unfold addG chA
  by_cases h : done.length = many
  · rw [if_pos h, if_pos h]
    have := hf s done
    simp only [List.foldl_cons, List.foldl_nil]
    rw [← this]
  · rw [if_neg h, if_neg h, loopG_fold f hf]

def hit (l p xs : List Int) : Bool := decide (shapeL (atG l xs) = p)
theorem places_l (l p : List Int) (hl : l.length ≤ 7) (hp : p.length ≤ 7) (rows : List (List Int)) (hr : rows.length ≤ 200) (hrow : ∀ xs ∈ rows, xs.length = p.length ∧ ∀ x ∈ xs, 0 ≤ x ∧ x < (l.length : Int)) : ∀ (suf pre out : List (List Int)), rows = pre ++ suf → out.length ≤ pre.length → Ev (fun k => spec_l3Places.l0 k l p out rows (pre.length : Int)) (out ++ suf.filter (hit l p)) := by
  intro suf
  induction suf with
  | nil =>
    intro pre out e ho
    have h := len_end e
    refine ev_succ ?_
    simp only [spec_l3Places.l0.eq_2]
    exact ev_neg (by omega) (ev_now (by simp))
  | cons c suf ih =>
    intro pre out e ho
    have h := len_mid e
    obtain ⟨hc1, hc2⟩ := hrow c (by rw [e]; simp)
    have hrd : rd_L1 rows (pre.length : Int) = c := by rw [e]; simp [rd_L1]
    refine ev_succ ?_
    simp only [spec_l3Places.l0.eq_2, hrd]
    rw [wrap_snoc (pre := pre) (c := c) (by omega)]
    have hal : (atG l c).length ≤ 7 := by simp [atG]; omega
    have hsl : (shapeL (atG l c)).length ≤ 7 := by simp [shapeL]; omega
    refine ev_pos (by omega) (ev_pos (by omega) (ev_bind (spec_at_ev l c (by omega) hc2) (ev_bind (spec_shape_ev _ hal) (ev_bind (same_ev _ p (by omega)) ?_))))
    by_cases hh : shapeL (atG l c) = p
    · refine ev_pos (decide_eq_true hh) (ev_pos (by omega) (ev_eq (ih _ _ (snoc_mid e) (by simp; omega)) ?_))
      rw [List.filter_cons, if_pos (show hit l p c = true from decide_eq_true hh)]; simp
    · refine ev_neg (by simpa using hh) (ev_eq (ih _ _ (snoc_mid e) (by simp; omega)) ?_)
      rw [List.filter_cons, if_neg (show ¬ hit l p c = true by simpa [hit] using hh)]
theorem places_ev (l p : List Int) (hl : l.length ≤ 7) (hp : p.length ≤ 7) : Ev (fun k => spec_l3Places.f k l p) ((chA l.length p.length l.length []).filter (hit l p)) := by
  unfold spec_l3Places.f
  have h1 := (choices_l l.length p.length hl l.length (Nat.le_refl _)).2 [] (by simp) (.inl ⟨rfl, rfl⟩)
  have hb := chA_bound l.length p.length l.length [] hl
  have h2 := places_l l p hl hp (chA l.length p.length l.length []) (by omega) (fun xs hx => chA_mem _ _ xs hx) _ [] [] rfl (Nat.le_refl _)
  rw [List.nil_append] at h2
  exact ev_bind h1 h2
theorem fold_cp (l p : List Int) : ∀ (L : List (List Int)) (s : Nat), s + L.length ≤ 1000 → L.foldl (fun s xs => (cpF l p s xs).1) (s : Int) = ((s + (L.filter (hit l p)).length : Nat) : Int) := by
  intro L
  induction L with
  | nil => intro s _; simp
  | cons c L ih =>
    intro s h
    simp only [List.length_cons] at h
    rw [List.foldl_cons]
    by_cases hh : shapeL (atG l c) = p
    · have e1 : (cpF l p (s : Int) c).1 = ((s + 1 : Nat) : Int) := by simp only [cpF]; rw [if_pos hh, wrap_of (by omega) (by omega)]; omega
      rw [e1, ih _ (by omega), List.filter_cons, if_pos (show hit l p c = true from decide_eq_true hh)]
      simp; omega
    · have e1 : (cpF l p (s : Int) c).1 = (s : Int) := by simp only [cpF]; rw [if_neg hh]
      rw [e1, ih _ (by omega), List.filter_cons, if_neg (show ¬ hit l p c = true by simpa [hit] using hh)]
theorem cpG_eq (l p : List Int) (hl : l.length ≤ 7) : cpG l p = (((chA l.length p.length l.length []).filter (hit l p)).length : Int) := by
  unfold cpG
  rw [addG_fold (cpF l p) (fun s xs => rfl)]
  have hb := chA_bound l.length p.length l.length [] hl
  have := fold_cp l p (chA l.length p.length l.length []) 0 (by omega)
  simpa using this
def cplR (a b : List Int) : Int × Bool := if isOrd a = true ∧ isOrd b = true then (cpG a b, true) else (0, false)
theorem spec_ev (a b : List Int) (ha : a.length ≤ 140737488351232) (hb : b.length ≤ 140737488351232) : Ev (fun k => spec_CountPlaces.f k a b) (cplR a b) := by
  unfold spec_CountPlaces.f cplR
  by_cases h1 : isOrd a = true
  · by_cases h2 : isOrd b = true
    · rw [if_pos ⟨h1, h2⟩]
      refine ev_bind (a := true) ?_ (ev_pos rfl (ev_bind (places_ev a b (ord_len h1).2 (ord_len h2).2) (ev_now (by rw [cpG_eq a b (ord_len h1).2]))))
      unfold spec_l3Good.f
      exact ev_bind (spec_order_ev a ha) (ev_pos h1 (ev_bind (spec_order_ev b hb) (ev_now h2)))
    · rw [if_neg (fun h => h2 h.2)]
      refine ev_bind (a := false) ?_ (ev_neg (by simp) (ev_now rfl))
      unfold spec_l3Good.f
      exact ev_bind (spec_order_ev a ha) (ev_pos h1 (ev_bind (spec_order_ev b hb) (ev_now (by simpa using h2))))
  · rw [if_neg (fun h => h1 h.1)]
    refine ev_bind (a := false) ?_ (ev_neg (by simp) (ev_now rfl))
    unfold spec_l3Good.f
    exact ev_bind (spec_order_ev a ha) (ev_neg h1 (ev_now rfl))
theorem impl_ev (a b : List Int) (ha : a.length ≤ 140737488351232) (hb : b.length ≤ 140737488351232) : Ev (fun k => impl_CountPlaces.f k a b) (cplR a b) := by
  unfold impl_CountPlaces.f
  refine ev_bind (impl_order_ev a ha) ?_
  by_cases h1 : isOrd a = true
  · refine ev_pos h1 (ev_bind (impl_order_ev b hb) ?_)
    by_cases h2 : isOrd b = true
    · refine ev_pos h2 (ev_bind (a := cpG a b) ?_ (ev_now (by unfold cplR; rw [if_pos ⟨h1, h2⟩])))
      unfold impl_countPlaces.f
      exact ev_pos ⟨(ord_len h1).2, (ord_len h2).2⟩ (ev_now rfl)
    · exact ev_neg h2 (ev_now (by unfold cplR; rw [if_neg (fun h => h2 h.2)]))
  · exact ev_neg h1 (ev_now (by unfold cplR; rw [if_neg (fun h => h1 h.1)]))
theorem FnExactCountPlaces : laws_FnExactCountPlaces.Pure := by
  intro a b hma ha hwa hmb hb hwb
  apply Ev.rounds (r := true)
  have hs := spec_ev a b (len_max ha) (len_max hb)
  have hi := impl_ev a b (len_max ha) (len_max hb)
  unfold laws_FnExactCountPlaces.f
  by_cases h1 : (a.length : Int) > 1048576
  · exact ev_pos h1 (ev_now rfl)
  refine ev_neg h1 ?_
  by_cases h2 : (b.length : Int) > 1048576
  · exact ev_pos h2 (ev_now rfl)
  refine ev_neg h2 (ev_bind (toInt_ev a ha) (ev_bind (toInt_ev b hb) (ev_bind hs (ev_bind (toInt_ev a ha) (ev_bind (toInt_ev b hb) (ev_bind hi (ev_pos rfl ?_)))))))
  refine ev_succ ?_
  simp only [laws_FnExactCountPlaces.j0.eq_2]
  exact ev_neg (by simp) (ev_bind (toInt_ev a ha) (ev_bind (eqInt_ev a a ha) (ev_pos (by simp) (ev_bind (toInt_ev b hb) (ev_bind (eqInt_ev b b hb) (ev_pos (by simp) (ev_now rfl)))))))
end Go.Proofs.Ytdiecblalplalaa.Pure
