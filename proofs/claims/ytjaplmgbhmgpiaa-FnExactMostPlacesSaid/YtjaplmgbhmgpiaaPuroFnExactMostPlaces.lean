/- The pure statement of FnExactMostPlaces: program and reference tell the same order and the same number of places. No condition. -/
import Derived.Test.YtjaplmgbhmgpiaaMFnExactMostPlacesx8
import Derived.Test.YtjaplmgbhmgpiaaBase
import Derived.Test.YtjaplmgbhmgpiaaBaseP
import Derived.Test.YtjaplmgbhmgpiaaBaseN
import Derived.Test.YtjaplmgbhmgpiaaBaseF
import Derived.Test.YtjaplmgbhmgpiaaBaseO
namespace Go.Proofs.Ytjaplmgbhmgpiaa.Pure
open Go Go.RowKit Go.Proofs.Ytjaplmgbhmgpiaa.MFnExactMostPlaces Go.Proofs.YtjaplmgbhmgpiaaW.PrintWords Go.Proofs.Ytjaplmgbhmgpiaa.Base
set_option linter.unusedVariables false
set_option linter.unusedSimpArgs false
/-! ### laws.toIntS, laws.eqIntS -/
theorem toInt_l (l : List Int) (hl : l.length * 8 ≤ 140737488351232) : ∀ (suf pre : List Int), l = pre ++ suf → Ev (fun k => laws_toIntS.l0 k l (pre ++ List.replicate suf.length 0) (pre.length : Int)) l := by
  intro suf
  induction suf with
  | nil =>
    intro pre e
    have h := len_end e
    refine ev_succ ?_
    simp only [laws_toIntS.l0.eq_2]
    refine ev_neg (by omega) ?_
    exact ev_now (by rw [e]; simp)
  | cons c suf ih =>
    intro pre e
    have h := len_mid e
    refine ev_succ ?_
    simp only [laws_toIntS.l0.eq_2, rd_mid' e]
    refine ev_pos (by omega) (ev_pos (by omega) (ev_pos (by simp; omega) ?_))
    rw [wrap_snoc (pre := pre) (c := c) (by omega)]
    have e2 : (pre ++ List.replicate (c :: suf).length 0).set ((pre.length : Int)).toNat c = (pre ++ [c]) ++ List.replicate suf.length 0 := by
      simp [List.replicate_succ]
    rw [e2]
    exact ih _ (snoc_mid e)
theorem toInt_ev (l : List Int) (hl : l.length * 8 ≤ 140737488351232) : Ev (fun k => laws_toIntS.f k l) l := by
  unfold laws_toIntS.f
  refine ev_pos (by omega) (ev_pos (by omega) ?_)
  have := toInt_l l hl l [] rfl
  simpa using this

theorem eqInt_l (a b : List Int) (hl : a.length * 8 ≤ 140737488351232) : ∀ (s t pre q : List Int), a = pre ++ s → b = q ++ t → pre.length = q.length → s.length = t.length → Ev (fun k => laws_eqIntS.l0 k a b (pre.length : Int)) (decide (s = t)) := by
  intro s
  induction s with
  | nil =>
    intro t pre q e e' h1 h2
    have h := len_end e
    obtain rfl : t = [] := by cases t with
      | nil => rfl
      | cons _ _ => simp at h2
    refine ev_succ ?_
    simp only [laws_eqIntS.l0.eq_2]
    refine ev_neg (by omega) ?_
    exact ev_now (by simp)
  | cons c s ih =>
    intro t pre q e e' h1 h2
    cases t with
    | nil => simp at h2
    | cons d t =>
    have h := len_mid e
    have h' := len_mid e'
    refine ev_succ ?_
    have r1 := rd_mid' e
    have r2 := rd_mid' e'
    rw [← h1] at r2
    simp only [laws_eqIntS.l0.eq_2, r1, r2]
    refine ev_pos (by omega) (ev_pos (by omega) (ev_pos (by omega) ?_))
    by_cases hc : c = d
    · refine ev_pos hc ?_
      rw [wrap_snoc (pre := pre) (c := c) (by omega)]
      refine ev_eq (ih t (pre ++ [c]) (q ++ [d]) (snoc_mid e) (snoc_mid e') (by simp [h1]) (by simpa using h2)) ?_
      simp [hc]
    · refine ev_neg hc (ev_now ?_)
      simp [hc]
theorem eqInt_ev (a b : List Int) (hl : a.length * 8 ≤ 140737488351232) : Ev (fun k => laws_eqIntS.f k a b) (decide (a = b)) := by
  unfold laws_eqIntS.f
  by_cases h : a.length = b.length
  · refine ev_pos (by omega) ?_
    exact eqInt_l a b hl a b [] [] rfl rfl rfl h
  · refine ev_neg (by omega) (ev_now ?_)
    symm
    exact decide_eq_false (fun e => h (by rw [e]))

theorem same_l (a b : List Int) (hl : a.length * 8 ≤ 140737488351232) : ∀ (s t pre q : List Int), a = pre ++ s → b = q ++ t → pre.length = q.length → s.length = t.length → Ev (fun k => spec_l1Same.l0 k a b (pre.length : Int)) (decide (s = t)) := by
  intro s
  induction s with
  | nil =>
    intro t pre q e e' h1 h2
    have h := len_end e
    obtain rfl : t = [] := by cases t with
      | nil => rfl
      | cons _ _ => simp at h2
    refine ev_succ ?_
    simp only [spec_l1Same.l0.eq_2]
    refine ev_neg (by omega) ?_
    exact ev_now (by simp)
  | cons c s ih =>
    intro t pre q e e' h1 h2
    cases t with
    | nil => simp at h2
    | cons d t =>
    have h := len_mid e
    have h' := len_mid e'
    refine ev_succ ?_
    have r1 := rd_mid' e
    have r2 := rd_mid' e'
    rw [← h1] at r2
    simp only [spec_l1Same.l0.eq_2, r1, r2]
    refine ev_pos (by omega) (ev_pos (by omega) (ev_pos (by omega) ?_))
    by_cases hc : c = d
    · refine ev_pos hc ?_
      rw [wrap_snoc (pre := pre) (c := c) (by omega)]
      refine ev_eq (ih t (pre ++ [c]) (q ++ [d]) (snoc_mid e) (snoc_mid e') (by simp [h1]) (by simpa using h2)) ?_
      simp [hc]
    · refine ev_neg hc (ev_now ?_)
      simp [hc]
theorem same_ev (a b : List Int) (hl : a.length * 8 ≤ 140737488351232) : Ev (fun k => spec_l1Same.f k a b) (decide (a = b)) := by
  unfold spec_l1Same.f
  by_cases h : a.length = b.length
  · refine ev_pos (by omega) ?_
    exact same_l a b hl a b [] [] rfl rfl rfl h
  · refine ev_neg (by omega) (ev_now ?_)
    symm
    exact decide_eq_false (fun e => h (by rw [e]))

/-! ### Is it an order? -/
theorem in_ev (a b c : Int) : Ev (fun _ => spec_l1In.f a b c) (decide (b ≤ a) && decide (a ≤ c)) := by
  unfold spec_l1In.f
  by_cases h : a ≥ b
  · refine ev_pos h (ev_now ?_)
    have : decide (b ≤ a) = true := decide_eq_true h
    rw [this]; rfl
  · refine ev_neg h (ev_now ?_)
    have : decide (b ≤ a) = false := decide_eq_false (by omega)
    rw [this]; rfl

theorem has_l (l : List Int) (x : Int) (hl : l.length ≤ 140737488351232) : ∀ (suf pre : List Int), l = pre ++ suf → Ev (fun k => spec_l1Has.l0 k l x (pre.length : Int)) (decide (x ∈ suf)) := by
  intro suf
  induction suf with
  | nil =>
    intro pre e
    have h := len_end e
    refine ev_succ ?_
    simp only [spec_l1Has.l0.eq_2]
    refine ev_neg (by omega) ?_
    exact ev_now (by simp)
  | cons c suf ih =>
    intro pre e
    have h := len_mid e
    refine ev_succ ?_
    simp only [spec_l1Has.l0.eq_2, rd_mid' e]
    refine ev_pos (by omega) (ev_pos (by omega) ?_)
    by_cases hc : c = x
    · exact ev_pos hc (ev_now (by simp [hc]))
    · refine ev_neg hc ?_
      rw [wrap_snoc (pre := pre) (c := c) (by omega)]
      refine ev_eq (ih _ (snoc_mid e)) ?_
      have : x ≠ c := fun h => hc h.symm
      simp [this]
theorem has_ev (l : List Int) (x : Int) (hl : l.length ≤ 140737488351232) : Ev (fun k => spec_l1Has.f k l x) (decide (x ∈ l)) := by
  unfold spec_l1Has.f
  exact has_l l x hl l [] rfl
theorem idx_l (l : List Int) (x : Int) (hl : l.length ≤ 140737488351232) : ∀ (suf pre : List Int), l = pre ++ suf → Ev (fun k => slices_Index_int_int.l0 k l x (l.length : Int) (pre.length : Int)) (if x ∈ suf then ((pre.length + suf.idxOf x : Nat) : Int) else -1) := by
  intro suf
  induction suf with
  | nil =>
    intro pre e
    have h := len_end e
    refine ev_succ ?_
    simp only [slices_Index_int_int.l0.eq_2]
    refine ev_neg (by omega) ?_
    exact ev_now (by simp)
  | cons c suf ih =>
    intro pre e
    have h := len_mid e
    refine ev_succ ?_
    simp only [slices_Index_int_int.l0.eq_2, rd_mid' e]
    refine ev_pos (by omega) (ev_pos (by omega) (ev_pos (by omega) ?_))
    by_cases hc : x = c
    · exact ev_pos hc (ev_now (by simp [hc]))
    · refine ev_neg hc ?_
      rw [wrap_snoc (pre := pre) (c := c) (by omega)]
      refine ev_eq (ih _ (snoc_mid e)) ?_
      have hc' : ¬ c = x := fun h => hc h.symm
      have hb : (c == x) = false := by simpa using hc'
      simp only [List.mem_cons, hc, false_or, List.idxOf_cons, hb, cond_false]
      by_cases hm : x ∈ suf
      · rw [if_pos hm, if_pos hm]; simp; omega
      · rw [if_neg hm, if_neg hm]
theorem idx_ev (l : List Int) (x : Int) (hl : l.length ≤ 140737488351232) : Ev (fun k => slices_Index_int_int.f k l x) (if x ∈ l then ((l.idxOf x : Nat) : Int) else -1) := by
  unfold slices_Index_int_int.f
  simpa using idx_l l x hl l [] rfl
theorem contains_ev (l : List Int) (x : Int) (hl : l.length ≤ 140737488351232) : Ev (fun k => slices_Contains_int_int.f k l x) (decide (x ∈ l)) := by
  unfold slices_Contains_int_int.f
  refine ev_bind (idx_ev l x hl) (ev_now ?_)
  by_cases h : x ∈ l
  · simp [h]
  · simp [h]


theorem spec_order_l (l : List Int) (hl : l.length ≤ 140737488351232) : ∀ (suf pre : List Int), l = pre ++ suf → Ev (fun k => spec_l2Order.l0 k l (pre.length : Int)) (ordGo (l.length : Int) pre suf) := by
  intro suf
  induction suf with
  | nil =>
    intro pre e
    have h := len_end e
    refine ev_succ ?_
    simp only [spec_l2Order.l0.eq_2]
    refine ev_neg (by omega) ?_
    exact ev_now rfl
  | cons c suf ih =>
    intro pre e
    have h := len_mid e
    refine ev_succ ?_
    simp only [spec_l2Order.l0.eq_2, rd_mid' e, take_mid e]
    refine ev_pos (by omega) (ev_pos (by omega) (ev_bind (in_ev _ _ _) ?_))
    by_cases hr : 1 ≤ c ∧ c ≤ (l.length : Int)
    · refine ev_pos (by simp [hr.1, hr.2]) (ev_pos (by omega) (ev_bind (has_ev pre c (by omega)) ?_))
      by_cases hc : c ∈ pre
      · exact ev_pos (by simp [hc]) (ev_now (by simp [ordGo, hc]))
      · refine ev_neg (by simp [hc]) ?_
        rw [wrap_snoc (pre := pre) (c := c) (by omega)]
        refine ev_eq (ih _ (snoc_mid e)) ?_
        simp [ordGo, hr.1, hr.2, hc]
    · refine ev_neg (by simp; omega) (ev_now ?_)
      simp only [ordGo]
      rw [if_neg (fun h => hr ⟨h.1, h.2.1⟩)]
theorem spec_order_ev (l : List Int) (hl : l.length ≤ 140737488351232) : Ev (fun k => spec_l2Order.f k l) (isOrd l) := by
  unfold spec_l2Order.f
  refine ev_bind (in_ev _ _ _) ?_
  unfold isOrd
  by_cases h : 1 ≤ l.length ∧ l.length ≤ 7
  · refine ev_pos (by simp; omega) ?_
    rw [if_pos h]
    exact spec_order_l l hl l [] rfl
  · refine ev_neg (by simp; omega) (ev_now ?_)
    rw [if_neg h]
theorem impl_order_l (l : List Int) (hl : l.length ≤ 140737488351232) : ∀ (suf pre : List Int), l = pre ++ suf → Ev (fun k => impl_isOrder.l0 k l l (l.length : Int) (pre.length : Int)) (ordGo (l.length : Int) pre suf) := by
  intro suf
  induction suf with
  | nil =>
    intro pre e
    have h := len_end e
    refine ev_succ ?_
    simp only [impl_isOrder.l0.eq_2]
    refine ev_neg (by omega) ?_
    exact ev_now rfl
  | cons c suf ih =>
    intro pre e
    have h := len_mid e
    refine ev_succ ?_
    simp only [impl_isOrder.l0.eq_2, rd_mid' e, take_mid e]
    refine ev_pos (by omega) (ev_pos (by omega) (ev_pos (by omega) ?_))
    by_cases h1 : c < 1
    · exact ev_pos h1 (ev_now (by simp only [ordGo]; rw [if_neg (fun h => by omega)]))
    refine ev_neg h1 ?_
    by_cases h2 : c > (l.length : Int)
    · exact ev_pos h2 (ev_now (by simp only [ordGo]; rw [if_neg (fun h => by omega)]))
    refine ev_neg h2 (ev_pos (by omega) (ev_bind (contains_ev pre c (by omega)) ?_))
    by_cases hc : c ∈ pre
    · exact ev_pos (by simp [hc]) (ev_now (by simp [ordGo, hc]))
    · refine ev_neg (by simp [hc]) ?_
      rw [wrap_snoc (pre := pre) (c := c) (by omega)]
      refine ev_eq (ih _ (snoc_mid e)) ?_
      simp only [ordGo]
      rw [if_pos ⟨by omega, by omega, hc⟩]
theorem impl_order_ev (l : List Int) (hl : l.length ≤ 140737488351232) : Ev (fun k => impl_isOrder.f k l) (isOrd l) := by
  have key : ∀ b : Bool, Ev (fun k => impl_isOrder.j0 k l b) (if b = true then false else ordGo (l.length : Int) [] l) := by
    intro b
    refine ev_succ ?_
    simp only [impl_isOrder.j0.eq_2]
    cases b with
    | true => exact ev_pos rfl (ev_now rfl)
    | false => exact ev_neg (by simp) (impl_order_l l hl l [] rfl)
  unfold impl_isOrder.f isOrd
  by_cases h1 : (l.length : Int) < 1
  · refine ev_pos h1 (ev_eq (key true) ?_)
    rw [if_pos rfl, if_neg (fun h => by omega)]
  · refine ev_neg h1 (ev_eq (key _) ?_)
    by_cases h2 : (l.length : Int) > 7
    · rw [if_neg (c := 1 ≤ l.length ∧ l.length ≤ 7) (fun h => by omega), if_pos (decide_eq_true h2)]
    · rw [if_pos (c := 1 ≤ l.length ∧ l.length ≤ 7) ⟨by omega, by omega⟩, if_neg (by simp; omega)]


theorem isSize_ev (n : Int) : Ev (fun _ => impl_isSize.f n) (decide (1 ≤ n) && decide (n ≤ 7)) := by
  unfold impl_isSize.f
  by_cases h : n ≥ 1
  · refine ev_pos h (ev_now ?_)
    have : decide (1 ≤ n) = true := decide_eq_true h
    rw [this]; rfl
  · refine ev_neg h (ev_now ?_)
    have : decide (1 ≤ n) = false := decide_eq_false (by omega)
    rw [this]; rfl

/-! ### factorials, the sorted order -/
theorem fact_tab : ∀ i : Fin 8, impl_factorial.f 20 ((i.val : Nat) : Int) = some ((fac i.val : Nat) : Int) := by decide +kernel
theorem fact_ev (n : Nat) (h : n ≤ 7) : Ev (fun k => impl_factorial.f k (n : Int)) ((fac n : Nat) : Int) := Ev.of (fun k => impl_factorial.mono _ k) (fact_tab ⟨n, by omega⟩)
theorem ways_tab : ∀ i : Fin 8, spec_l2Ways.f 20 ((i.val : Nat) : Int) = some ((fac i.val : Nat) : Int) := by decide +kernel
theorem ways_ev (n : Nat) (h : n ≤ 7) : Ev (fun k => spec_l2Ways.f k (n : Int)) ((fac n : Nat) : Int) := Ev.of (fun k => spec_l2Ways.mono _ k) (ways_tab ⟨n, by omega⟩)
theorem sorted_tab : ∀ i : Fin 8, impl_sorted.f 20 ((i.val : Nat) : Int) = some (iota 1 i.val) := by decide +kernel
theorem sorted_ev (n : Nat) (h : n ≤ 7) : Ev (fun k => impl_sorted.f k (n : Int)) (iota 1 n) := Ev.of (fun k => impl_sorted.mono _ k) (sorted_tab ⟨n, by omega⟩)
theorem delete_ev (l : List Int) (i : Nat) (h : i < l.length) (hl : l.length ≤ 7) : Ev (fun _ => slices_Delete_int_int.f l (i : Int) (wrap64 ((i : Int) + 1))) (l.eraseIdx i) := by
  unfold slices_Delete_int_int.f
  rw [wrap_of (by omega) (by omega)]
  refine ev_pos (by omega) (ev_pos (by omega) (ev_pos (by omega) (ev_now ?_)))
  rw [← take_drop_erase]
  simp

/-! ### laws.markIntS, laws.heldIntS -/
theorem mark_l : ∀ (suf pre : List Int) (x : Int), 0 ≤ x → x + suf.length ≤ 4611686018427387904 → pre.length + suf.length ≤ 4611686018427387904 → Ev (fun k => laws_markIntS.l0 k (pre ++ suf) x (pre.length : Int)) (x + suf.length, pre ++ iota x suf.length) := by
  intro suf
  induction suf with
  | nil =>
    intro pre x h0 h1 h2
    refine ev_succ ?_
    simp only [laws_markIntS.l0.eq_2]
    refine ev_neg (by simp) ?_
    exact ev_now (by simp [iota])
  | cons c suf ih =>
    intro pre x h0 h1 h2
    simp only [List.length_cons] at h1 h2
    refine ev_succ ?_
    simp only [laws_markIntS.l0.eq_2]
    refine ev_pos (by simp; omega) (ev_pos (by omega) ?_)
    have e2 : (pre ++ c :: suf).set ((pre.length : Int)).toNat x = (pre ++ [x]) ++ suf := by simp
    rw [wrap_snoc (pre := pre) (c := x) (by omega), e2, wrap_of (by omega) (by omega)]
    refine ev_eq (ih (pre ++ [x]) (x + 1) (by omega) (by omega) (by simp; omega)) ?_
    simp [iota]; omega
theorem mark_ev (l : List Int) (x : Int) (h0 : 0 ≤ x) (h1 : x + l.length ≤ 4611686018427387904) : Ev (fun k => laws_markIntS.f k l x) (x + l.length, iota x l.length) := by
  unfold laws_markIntS.f
  have := mark_l l [] x h0 h1 (by simp; omega)
  simpa using this
theorem held_l : ∀ (n : Nat) (pre : List Int) (x : Int), 0 ≤ x → x + n ≤ 4611686018427387904 → pre.length + n ≤ 4611686018427387904 → Ev (fun k => laws_heldIntS.l0 k (pre ++ iota x n) x (pre.length : Int)) (x + n) := by
  intro n
  induction n with
  | zero =>
    intro pre x h0 h1 h2
    refine ev_succ ?_
    simp only [laws_heldIntS.l0.eq_2]
    refine ev_neg (by simp [iota]) ?_
    exact ev_now (by simp)
  | succ n ih =>
    intro pre x h0 h1 h2
    refine ev_succ ?_
    simp only [laws_heldIntS.l0.eq_2, iota, rd_mid]
    refine ev_pos (by simp; omega) (ev_pos (by omega) (ev_pos trivial ?_))
    rw [wrap_snoc (pre := pre) (c := x) (by omega), wrap_of (by omega) (by omega), show pre ++ x :: iota (x + 1) n = (pre ++ [x]) ++ iota (x + 1) n by simp]
    refine ev_eq (ih (pre ++ [x]) (x + 1) (by omega) (by omega) (by simp; omega)) ?_
    omega
theorem held_ev (n : Nat) (x : Int) (h0 : 0 ≤ x) (h1 : x + n ≤ 4611686018427387904) : Ev (fun k => laws_heldIntS.f k (iota x n) x) (x + n) := by
  unfold laws_heldIntS.f
  have := held_l n [] x h0 h1 (by simp; omega)
  simpa using this

/-! ### shape -/
theorem spec_shape_in (l : List Int) (hl : l.length ≤ 7) (x : Int) (i : Int) (hi : 0 ≤ i ∧ i < l.length) (hx : rd l i = x) (out R : List Int) (ho : out.length ≤ 7) : ∀ (suf pre : List Int) (a : Int), l = pre ++ suf → 0 ≤ a → a + suf.length ≤ 100 → Ev (fun k => spec_l3Shape.l0 k l (out ++ [a + lessN x suf]) (wrap64 (i + 1))) R → Ev (fun k => spec_l3Shape.l1 k l out i a (pre.length : Int)) R := by
  intro suf
  induction suf with
  | nil =>
    intro pre a e h0 h1 hR
    have h := len_end e
    refine ev_succ ?_
    simp only [spec_l3Shape.l1.eq_2]
    refine ev_neg (by omega) (ev_pos (by omega) ?_)
    simpa [lessN] using hR
  | cons c suf ih =>
    intro pre a e h0 h1 hR
    have h := len_mid e
    simp only [List.length_cons] at h1
    refine ev_succ ?_
    simp only [spec_l3Shape.l1.eq_2, rd_mid' e, hx]
    rw [wrap_snoc (pre := pre) (c := c) (by omega)]
    refine ev_pos (by omega) (ev_pos (by omega) (ev_pos (by omega) (ev_pos (by omega) ?_)))
    rw [lessN_cons] at hR
    by_cases hc : c < x
    · refine ev_pos hc ?_
      rw [wrap_of (x := a + 1) (by omega) (by omega)]
      refine ih _ _ (snoc_mid e) (by omega) (by omega) ?_
      rw [if_pos hc] at hR
      rwa [show a + 1 + (lessN x suf : Int) = a + ((1 + lessN x suf : Nat) : Int) by omega]
    · refine ev_neg hc (ih _ _ (snoc_mid e) (by omega) (by omega) ?_)
      rw [if_neg hc] at hR
      simpa using hR
theorem spec_shape_l (l : List Int) (hl : l.length ≤ 7) : ∀ (suf pre out : List Int), l = pre ++ suf → out.length = pre.length → Ev (fun k => spec_l3Shape.l0 k l out (pre.length : Int)) (out ++ suf.map (fun x => ((1 + lessN x l : Nat) : Int))) := by
  intro suf
  induction suf with
  | nil =>
    intro pre out e ho
    have h := len_end e
    refine ev_succ ?_
    simp only [spec_l3Shape.l0.eq_2]
    exact ev_neg (by omega) (ev_now (by simp))
  | cons c suf ih =>
    intro pre out e ho
    have h := len_mid e
    refine ev_succ ?_
    simp only [spec_l3Shape.l0.eq_2]
    refine ev_pos (by omega) (spec_shape_in l hl c _ ⟨by omega, by omega⟩ (rd_mid' e) out _ (by omega) l [] 1 rfl (by omega) (by omega) ?_)
    rw [wrap_snoc (pre := pre) (c := c) (by omega)]
    refine ev_eq (ih _ _ (snoc_mid e) ?_) ?_
    · simp [ho]
    · simp
theorem spec_shape_ev (l : List Int) (hl : l.length ≤ 7) : Ev (fun k => spec_l3Shape.f k l) (shapeL l) := by
  unfold spec_l3Shape.f shapeL
  exact spec_shape_l l hl l [] [] rfl rfl

/-! ### all choices, as the reference lists them -/
theorem own_ev (l : List Int) (h : l.length ≤ 1000000) : Ev (fun _ => spec_l1Own.f l) l := by
  unfold spec_l1Own.f
  exact ev_let (ev_pos (by simp; omega) (ev_now (by simp)))

theorem choices_f (n many : Nat) (hn : n ≤ 7) (r : Nat) (L : ∀ (done : List Int) (acc : List (List Int)), done.length + r ≤ n → acc.length + (chL n many r done).length ≤ 1000 → Ev (fun k => spec_l3Choices.l0 k done (n : Int) (many : Int) acc ((n - r : Nat) : Int)) (acc ++ chL n many r done)) :
    ∀ (done : List Int), done.length + r ≤ n → (done = [] ∧ r = n ∨ ∃ d, ∃ x : Int, done = d ++ [x] ∧ x + 1 = ((n - r : Nat) : Int)) → Ev (fun k => spec_l3Choices.f k done (n : Int) (many : Int)) (chA n many r done) := by
  intro done hd hl
  have hb := chL_bound n many r done (by omega)
  refine ev_succ ?_
  simp only [spec_l3Choices.f.eq_2]
  unfold chA
  by_cases hm : done.length = many
  · rw [if_pos hm]; exact ev_pos (by omega) (ev_now rfl)
  · rw [if_neg hm]
    have J : ∀ x : Int, x = ((n - r : Nat) : Int) → Ev (fun k => spec_l3Choices.j0 k done (n : Int) (many : Int) [] x) (chL n many r done) := by
      intro x hx
      refine ev_succ ?_
      simp only [spec_l3Choices.j0.eq_2]
      rw [hx]
      exact ev_eq (L done [] hd (by simp; omega)) (by simp)
    refine ev_neg (by omega) (ev_let ?_)
    rcases hl with ⟨rfl, rfl⟩ | ⟨d, x, rfl, hx⟩
    · exact ev_neg (by simp) (J 0 (by simp))
    · have h1 : ((d ++ [x]).length : Int) = (d.length : Int) + 1 := by simp
      have h2 : rd (d ++ [x]) (((d ++ [x]).length : Int) - 1) = x := by simp [rd]
      rw [wrap_of (x := ((d ++ [x]).length : Int) - 1) (by simp at hd; omega) (by simp at hd; omega), h2]
      exact ev_pos (by omega) (ev_pos (by omega) (ev_pos (by omega) (J _ (by rw [wrap_of (by omega) (by omega)]; exact hx))))
theorem choices_l (n many : Nat) (hn : n ≤ 7) : ∀ (r : Nat), r ≤ n →
    (∀ (done : List Int) (acc : List (List Int)), done.length + r ≤ n → acc.length + (chL n many r done).length ≤ 1000 → Ev (fun k => spec_l3Choices.l0 k done (n : Int) (many : Int) acc ((n - r : Nat) : Int)) (acc ++ chL n many r done)) ∧
    (∀ (done : List Int), done.length + r ≤ n → (done = [] ∧ r = n ∨ ∃ d, ∃ x : Int, done = d ++ [x] ∧ x + 1 = ((n - r : Nat) : Int)) → Ev (fun k => spec_l3Choices.f k done (n : Int) (many : Int)) (chA n many r done)) := by
  intro r
  induction r with
  | zero =>
    intro hr
    have L : ∀ (done : List Int) (acc : List (List Int)), done.length + 0 ≤ n → acc.length + (chL n many 0 done).length ≤ 1000 → Ev (fun k => spec_l3Choices.l0 k done (n : Int) (many : Int) acc ((n - 0 : Nat) : Int)) (acc ++ chL n many 0 done) := by
      intro done acc _ _
      refine ev_succ ?_
      simp only [spec_l3Choices.l0.eq_2]
      exact ev_neg (by omega) (ev_now (by simp [chL]))
    exact ⟨L, fun done hd hl => choices_f n many hn 0 L done hd hl⟩
  | succ r ih =>
    intro hr
    obtain ⟨ih1, ih2⟩ := ih (by omega)
    have L : ∀ (done : List Int) (acc : List (List Int)), done.length + (r + 1) ≤ n → acc.length + (chL n many (r + 1) done).length ≤ 1000 → Ev (fun k => spec_l3Choices.l0 k done (n : Int) (many : Int) acc ((n - (r + 1) : Nat) : Int)) (acc ++ chL n many (r + 1) done) := by
      intro done acc hd ha
      rw [chL_succ] at ha ⊢
      rw [List.length_append] at ha
      refine ev_succ ?_
      simp only [spec_l3Choices.l0.eq_2]
      rw [wrap_of (x := ((n - (r + 1) : Nat) : Int) + 1) (by omega) (by omega), show ((n - (r + 1) : Nat) : Int) + 1 = ((n - r : Nat) : Int) by omega]
      refine ev_pos (by omega) (ev_bind (own_ev done (by omega)) (ev_pos (by omega) (ev_bind (ih2 (done ++ [((n - (r + 1) : Nat) : Int)]) (by simp; omega) (.inr ⟨done, _, rfl, by omega⟩)) (ev_pos (by omega) ?_))))
      refine ev_eq (ih1 done _ (by omega) (by rw [List.length_append]; omega)) ?_
      rw [List.append_assoc]
    exact ⟨L, fun done hd hl => choices_f n many hn (r + 1) L done hd hl⟩

theorem spec_at_l (l xs : List Int) (hl : xs.length ≤ 7) (hq : ∀ x ∈ xs, 0 ≤ x ∧ x < (l.length : Int)) : ∀ (suf pre out : List Int), xs = pre ++ suf → out.length = pre.length → Ev (fun k => spec_l3At.l0 k l xs out (pre.length : Int)) (out ++ atG l suf) := by
  intro suf
  induction suf with
  | nil =>
    intro pre out e ho
    have h := len_end e
    refine ev_succ ?_
    simp only [spec_l3At.l0.eq_2]
    exact ev_neg (by omega) (ev_now (by simp [atG]))
  | cons c suf ih =>
    intro pre out e ho
    have h := len_mid e
    have hc := hq c (by rw [e]; simp)
    refine ev_succ ?_
    simp only [spec_l3At.l0.eq_2, rd_mid' e]
    rw [wrap_snoc (pre := pre) (c := c) (by omega)]
    refine ev_pos (by omega) (ev_pos (by omega) (ev_pos (by omega) (ev_pos (by omega) (ev_pos (by omega) (ev_eq (ih _ _ (snoc_mid e) (by simp [ho])) ?_)))))
    simp [atG]
theorem spec_at_ev (l xs : List Int) (hl : xs.length ≤ 7) (hq : ∀ x ∈ xs, 0 ≤ x ∧ x < (l.length : Int)) : Ev (fun k => spec_l3At.f k l xs) (atG l xs) := by
  unfold spec_l3At.f
  exact spec_at_l l xs hl hq xs [] [] rfl rfl

/-! ### choose, where the callback never stops it -/
theorem loopG_fold {σ : Type} (f : σ → List Int → σ × Bool) (hf : ∀ s xs, (f s xs).2 = false) (n many : Nat) : ∀ (r : Nat) (done : List Int) (s : σ), loopG f n many r done s = ((chL n many r done).foldl (fun s xs => (f s xs).1) s, false) := by
  intro r
  induction r with
  | zero => intro done s; rfl
  | succ r ih =>
    intro done s
    simp only [loopG, chL, List.foldl_append]
    by_cases h : done.length + 1 = many
    · rw [if_pos h, if_pos h, hf, if_neg (by simp), ih]; rfl
    · rw [if_neg h, if_neg h, ih, if_neg (by simp), ih]
theorem addG_fold {σ : Type} (f : σ → List Int → σ × Bool) (hf : ∀ s xs, (f s xs).2 = false) {n many r : Nat} {done : List Int} {s : σ} : addG f n many r done s = ((chA n many r done).foldl (fun s xs => (f s xs).1) s, false) := by
  unfold addG chA
  by_cases h : done.length = many
  · rw [if_pos h, if_pos h]
    have := hf s done
    simp only [List.foldl_cons, List.foldl_nil]
    rw [← this]
  · rw [if_neg h, if_neg h, loopG_fold f hf]

/-! ### the places of a pattern, as the reference lists them -/
def hit (l p xs : List Int) : Bool := decide (shapeL (atG l xs) = p)
theorem places_l (l p : List Int) (hl : l.length ≤ 7) (hp : p.length ≤ 7) (rows : List (List Int)) (hr : rows.length ≤ 200) (hrow : ∀ xs ∈ rows, xs.length = p.length ∧ ∀ x ∈ xs, 0 ≤ x ∧ x < (l.length : Int)) : ∀ (suf pre out : List (List Int)), rows = pre ++ suf → out.length ≤ pre.length → Ev (fun k => spec_l3Places.l0 k l p out rows (pre.length : Int)) (out ++ suf.filter (hit l p)) := by
  intro suf
  induction suf with
  | nil =>
    intro pre out e ho
    have h := len_end e
    refine ev_succ ?_
    simp only [spec_l3Places.l0.eq_2]
    exact ev_neg (by omega) (ev_now (by simp))
  | cons c suf ih =>
    intro pre out e ho
    have h := len_mid e
    obtain ⟨hc1, hc2⟩ := hrow c (by rw [e]; simp)
    have hrd : rd_L1 rows (pre.length : Int) = c := by rw [e]; simp [rd_L1]
    refine ev_succ ?_
    simp only [spec_l3Places.l0.eq_2, hrd]
    rw [wrap_snoc (pre := pre) (c := c) (by omega)]
    have hal : (atG l c).length ≤ 7 := by simp [atG]; omega
    have hsl : (shapeL (atG l c)).length ≤ 7 := by simp [shapeL]; omega
    refine ev_pos (by omega) (ev_pos (by omega) (ev_bind (spec_at_ev l c (by omega) hc2) (ev_bind (spec_shape_ev _ hal) (ev_bind (same_ev _ p (by omega)) ?_))))
    by_cases hh : shapeL (atG l c) = p
    · refine ev_pos (decide_eq_true hh) (ev_pos (by omega) (ev_eq (ih _ _ (snoc_mid e) (by simp; omega)) ?_))
      rw [List.filter_cons, if_pos (show hit l p c = true from decide_eq_true hh)]; simp
    · refine ev_neg (by simpa using hh) (ev_eq (ih _ _ (snoc_mid e) (by simp; omega)) ?_)
      rw [List.filter_cons, if_neg (show ¬ hit l p c = true by simpa [hit] using hh)]
theorem places_ev (l p : List Int) (hl : l.length ≤ 7) (hp : p.length ≤ 7) : Ev (fun k => spec_l3Places.f k l p) ((chA l.length p.length l.length []).filter (hit l p)) := by
  unfold spec_l3Places.f
  have h1 := (choices_l l.length p.length hl l.length (Nat.le_refl _)).2 [] (by simp) (.inl ⟨rfl, rfl⟩)
  have hb := chA_bound l.length p.length l.length [] hl
  have h2 := places_l l p hl hp (chA l.length p.length l.length []) (by omega) (fun xs hx => chA_mem _ _ xs hx) _ [] [] rfl (Nat.le_refl _)
  rw [List.nil_append] at h2
  exact ev_bind h1 h2

/-! ### countPlaces tells how many places there are -/
theorem fold_cp (l p : List Int) : ∀ (L : List (List Int)) (s : Nat), s + L.length ≤ 1000 → L.foldl (fun s xs => (cpF l p s xs).1) (s : Int) = ((s + (L.filter (hit l p)).length : Nat) : Int) := by
  intro L
  induction L with
  | nil => intro s _; simp
  | cons c L ih =>
    intro s h
    simp only [List.length_cons] at h
    rw [List.foldl_cons]
    by_cases hh : shapeL (atG l c) = p
    · have e1 : (cpF l p (s : Int) c).1 = ((s + 1 : Nat) : Int) := by simp only [cpF]; rw [if_pos hh, wrap_of (by omega) (by omega)]; omega
      rw [e1, ih _ (by omega), List.filter_cons, if_pos (show hit l p c = true from decide_eq_true hh)]
      simp; omega
    · have e1 : (cpF l p (s : Int) c).1 = (s : Int) := by simp only [cpF]; rw [if_neg hh]
      rw [e1, ih _ (by omega), List.filter_cons, if_neg (show ¬ hit l p c = true by simpa [hit] using hh)]
theorem cpG_eq (l p : List Int) (hl : l.length ≤ 7) : cpG l p = (((chA l.length p.length l.length []).filter (hit l p)).length : Int) := by
  unfold cpG
  rw [addG_fold (cpF l p) (fun s xs => rfl)]
  have hb := chA_bound l.length p.length l.length [] hl
  have := fold_cp l p (chA l.length p.length l.length []) 0 (by omega)
  simpa using this

/-! ### the order with a rank -/
theorem tdiv_nat (a b : Nat) : Int.tdiv (a : Int) (b : Int) = ((a / b : Nat) : Int) := (Int.ofNat_tdiv a b).symm
theorem tmod_nat (a b : Nat) : Int.tmod (a : Int) (b : Int) = ((a % b : Nat) : Int) := (Int.ofNat_tmod a b).symm
theorem rd_getD (l : List Int) (n : Nat) : rd l (n : Int) = l.getD n 0 := by unfold rd; simp
theorem impl_oat_l : ∀ (r : Nat) (left out : List Int) (k : Nat), left.length = r → r ≤ 7 → out.length + r ≤ 7 → k < fac r → Ev (fun n => impl_orderAt.l0 n (k : Int) left out) (out ++ atGo r left k) := by
  intro r
  induction r with
  | zero =>
    intro left out k hl h7 ho hk
    refine ev_succ ?_
    simp only [impl_orderAt.l0.eq_2]
    exact ev_neg (by omega) (ev_now (by simp [atGo]))
  | succ r ih =>
    intro left out k hl h7 ho hk
    have hp := fac_pos r
    have hf := fac_le (n := r) (by omega)
    have hq : k / fac r < r + 1 := by rw [fac] at hk; rw [Nat.div_lt_iff_lt_mul hp]; exact hk
    have hm : k % fac r < fac r := Nat.mod_lt _ hp
    obtain ⟨q, hqe⟩ : ∃ q, q = k / fac r := ⟨_, rfl⟩
    rw [← hqe] at hq
    refine ev_succ ?_
    simp only [impl_orderAt.l0.eq_2]
    rw [wrap_of (x := (left.length : Int) - 1) (by omega) (by omega), show (left.length : Int) - 1 = (r : Int) by omega]
    refine ev_pos (by omega) (ev_bind (fact_ev r (by omega)) ?_)
    rw [tdiv_nat, tmod_nat, ← hqe, wrap_of (x := ((q : Nat) : Int)) (by omega) (by omega)]
    refine ev_neg (by omega) (ev_pos (by omega) (ev_pos (by omega) (ev_pos (by omega) (ev_bind (delete_ev left q (by omega) (by omega)) ?_))))
    rw [rd_getD]
    refine ev_eq (ih _ _ _ (by rw [List.length_eraseIdx_of_lt (by omega)]; omega) (by omega) (by simp; omega) hm) ?_
    simp [atGo, hqe]
theorem spec_oat_l : ∀ (r : Nat) (left out : List Int) (k : Nat), left.length = r → r ≤ 7 → out.length + r ≤ 7 → k < fac r → Ev (fun n => spec_l2At.l0 n (k : Int) out left) (out ++ atGo r left k) := by
  intro r
  induction r with
  | zero =>
    intro left out k hl h7 ho hk
    refine ev_succ ?_
    simp only [spec_l2At.l0.eq_2]
    exact ev_neg (by omega) (ev_now (by simp [atGo]))
  | succ r ih =>
    intro left out k hl h7 ho hk
    have hp := fac_pos r
    have hf := fac_le (n := r) (by omega)
    have hq : k / fac r < r + 1 := by rw [fac] at hk; rw [Nat.div_lt_iff_lt_mul hp]; exact hk
    have hm : k % fac r < fac r := Nat.mod_lt _ hp
    obtain ⟨q, hqe⟩ : ∃ q, q = k / fac r := ⟨_, rfl⟩
    rw [← hqe] at hq
    refine ev_succ ?_
    simp only [spec_l2At.l0.eq_2]
    rw [wrap_of (x := (left.length : Int) - 1) (by omega) (by omega), show (left.length : Int) - 1 = (r : Int) by omega]
    refine ev_pos (by omega) (ev_bind (ways_ev r (by omega)) ?_)
    rw [tdiv_nat, tmod_nat, ← hqe, wrap_of (x := ((q : Nat) : Int)) (by omega) (by omega), wrap_of (x := ((q : Nat) : Int) + 1) (by omega) (by omega)]
    refine ev_neg (by omega) (ev_pos (by omega) (ev_pos (by omega) (ev_pos (by omega) (ev_pos (by omega) (ev_bind (own_ev _ (by simp; omega)) (ev_pos (by omega) (ev_pos (by omega) (ev_let (ev_pos (by simp; omega) ?_)))))))))
    rw [rd_getD, show ((((q : Nat) : Int)).toNat) = q by omega, show (((((q : Nat) : Int)) + 1).toNat) = q + 1 by omega, take_drop_erase]
    refine ev_eq (ih _ _ _ (by rw [List.length_eraseIdx_of_lt (by omega)]; omega) (by omega) (by simp; omega) hm) ?_
    simp [atGo, hqe]
theorem spec_sorted_tab : ∀ i : Fin 8, spec_l2Sorted.f 20 ((i.val : Nat) : Int) = some (iota 1 i.val) := by decide +kernel
theorem spec_sorted_ev (n : Nat) (h : n ≤ 7) : Ev (fun k => spec_l2Sorted.f k (n : Int)) (iota 1 n) := Ev.of (fun k => spec_l2Sorted.mono _ k) (spec_sorted_tab ⟨n, by omega⟩)

/-! ### all orders -/
def ordersL (n : Nat) : List (List Int) := (List.range (fac n)).map (orderAtL n)
theorem ordersL_len (n : Nat) : (ordersL n).length = fac n := by simp [ordersL]
theorem ordersL_mem {n : Nat} {c : List Int} (h : c ∈ ordersL n) : c.length = n := by
  obtain ⟨k, _, rfl⟩ := List.mem_map.1 h
  simp [orderAtL, atGo_length]
theorem impl_orders_l (n : Nat) (hn : n ≤ 7) : ∀ (d j : Nat), j + d = fac n → Ev (fun k => impl_allOrders.l0 k (n : Int) ((List.range j).map (orderAtL n)) (fac n : Int) (j : Int)) (ordersL n) := by
  intro d
  have hf := fac_le hn
  induction d with
  | zero =>
    intro j e
    refine ev_succ ?_
    simp only [impl_allOrders.l0.eq_2]
    exact ev_neg (by omega) (ev_now (by unfold ordersL; rw [← e]; rfl))
  | succ d ih =>
    intro j e
    refine ev_succ ?_
    simp only [impl_allOrders.l0.eq_2]
    rw [wrap_of (x := (j : Int) + 1) (by omega) (by omega)]
    refine ev_pos (by omega) (ev_bind (a := orderAtL n j) ?_ (ev_pos (by simp; omega) ?_))
    · unfold impl_orderAt.f
      refine ev_bind (sorted_ev n hn) ?_
      exact impl_oat_l n (iota 1 n) [] j (iota_length _ _) (by omega) (by simp; omega) (by omega)
    · have h := ih (j + 1) (by omega)
      rw [List.range_succ, List.map_append] at h
      exact h
theorem impl_orders_ev (n : Nat) (hn : n ≤ 7) : Ev (fun k => impl_allOrders.f k (n : Int)) (ordersL n) := by
  unfold impl_allOrders.f
  exact ev_bind (fact_ev n hn) (impl_orders_l n hn (fac n) 0 (by omega))
theorem spec_orders_l (n : Nat) (hn : n ≤ 7) : ∀ (d j : Nat), j + d = fac n → Ev (fun k => spec_l2Orders.l0 k (n : Int) ((List.range j).map (orderAtL n)) (j : Int)) (ordersL n) := by
  intro d
  have hf := fac_le hn
  induction d with
  | zero =>
    intro j e
    refine ev_succ ?_
    simp only [spec_l2Orders.l0.eq_2]
    exact ev_bind (ways_ev n hn) (ev_neg (by omega) (ev_now (by unfold ordersL; rw [← e]; rfl)))
  | succ d ih =>
    intro j e
    refine ev_succ ?_
    simp only [spec_l2Orders.l0.eq_2]
    rw [wrap_of (x := (j : Int) + 1) (by omega) (by omega)]
    refine ev_bind (ways_ev n hn) (ev_pos (by omega) (ev_bind (a := orderAtL n j) ?_ (ev_pos (by simp; omega) ?_)))
    · unfold spec_l2At.f
      refine ev_bind (spec_sorted_ev n hn) ?_
      exact spec_oat_l n (iota 1 n) [] j (iota_length _ _) (by omega) (by simp; omega) (by omega)
    · have h := ih (j + 1) (by omega)
      rw [List.range_succ, List.map_append] at h
      exact h
theorem spec_orders_ev (n : Nat) (hn : n ≤ 7) : Ev (fun k => spec_l2Orders.f k (n : Int)) (ordersL n) := by
  unfold spec_l2Orders.f
  exact spec_orders_l n hn (fac n) 0 (by omega)

def mpGo (p : List Int) : List (List Int) → List Int → Int → List Int × Int × Bool
  | [], b, m => (b, m, true)
  | c :: s, b, m => if cpG c p > m then mpGo p s c (cpG c p) else mpGo p s b m
theorem mpGo_len (p : List Int) : ∀ (rows : List (List Int)) (b : List Int) (m : Int), (∀ c ∈ rows, c.length ≤ 7) → b.length ≤ 7 → (mpGo p rows b m).1.length ≤ 7 := by
  intro rows
  induction rows with
  | nil => intro b m _ hb; exact hb
  | cons c s ih =>
    intro b m hr hb
    simp only [mpGo]
    split
    · exact ih _ _ (fun x hx => hr x (by simp [hx])) (hr c (by simp))
    · exact ih _ _ (fun x hx => hr x (by simp [hx])) hb
theorem impl_go (p : List Int) (hp : p.length ≤ 7) : ∀ (rows : List (List Int)) (b : List Int) (m : Int), (∀ c ∈ rows, c.length ≤ 7) → impl_MostPlaces.go p rows b m = some (mpGo p rows b m) := by
  intro rows
  induction rows with
  | nil => intro b m _; rfl
  | cons c s ih =>
    intro b m hr
    have h1 : impl_countPlaces.f c p = some (cpG c p) := by unfold impl_countPlaces.f; rw [if_pos ⟨hr c (by simp), hp⟩]
    simp only [impl_MostPlaces.go, h1, Option.bind_some, mpGo]
    split
    · exact ih _ _ (fun x hx => hr x (by simp [hx]))
    · exact ih _ _ (fun x hx => hr x (by simp [hx]))
theorem spec_go (p : List Int) (hp : p.length ≤ 7) (rows : List (List Int)) (hn : rows.length ≤ 5040) (hr : ∀ c ∈ rows, c.length ≤ 7) : ∀ (suf pre : List (List Int)) (b : List Int) (m : Int), rows = pre ++ suf → Ev (fun k => spec_MostPlaces.l0 k p rows b m (pre.length : Int)) (mpGo p suf b m) := by
  intro suf
  induction suf with
  | nil =>
    intro pre b m e
    have h := len_end e
    refine ev_succ ?_
    simp only [spec_MostPlaces.l0.eq_2]
    exact ev_neg (by omega) (ev_now rfl)
  | cons c suf ih =>
    intro pre b m e
    have h := len_mid e
    have hc := hr c (by rw [e]; simp)
    have hrd : rd_L1 rows (pre.length : Int) = c := by rw [e]; simp [rd_L1]
    refine ev_succ ?_
    simp only [spec_MostPlaces.l0.eq_2, hrd, mpGo]
    rw [wrap_snoc (pre := pre) (c := c) (by omega)]
    refine ev_pos (by omega) (ev_pos (by omega) (ev_bind (places_ev c p hc hp) ?_))
    rw [← cpG_eq c p hc]
    by_cases hq : cpG c p > m
    · rw [if_pos hq]; exact ev_pos hq (ih _ _ _ (snoc_mid e))
    · rw [if_neg hq]; exact ev_neg hq (ih _ _ _ (snoc_mid e))
def mpR (a : Int) (p : List Int) : List Int × Int × Bool := if (1 ≤ a ∧ a ≤ 7) ∧ isOrd p = true then mpGo p (ordersL a.toNat) [] (-1) else ([], 0, false)
theorem mpR_len (a : Int) (p : List Int) : (mpR a p).1.length ≤ 7 := by
  unfold mpR
  split
  · rename_i h
    exact mpGo_len p _ _ _ (fun c hc => by have := ordersL_mem hc; omega) (by simp)
  · simp
theorem impl_ev (a : Int) (p : List Int) (hl : p.length ≤ 140737488351232) : Ev (fun k => impl_MostPlaces.f k a p) (mpR a p) := by
  unfold impl_MostPlaces.f
  refine ev_bind (isSize_ev a) ?_
  by_cases h : 1 ≤ a ∧ a ≤ 7
  · refine ev_pos (by simp; omega) (ev_bind (impl_order_ev p hl) ?_)
    by_cases h2 : isOrd p = true
    · obtain ⟨n, rfl⟩ : ∃ n : Nat, a = (n : Int) := ⟨a.toNat, by omega⟩
      refine ev_pos h2 (ev_bind (impl_orders_ev n (by omega)) (ev_const ?_))
      rw [impl_go p (ord_len h2).2 _ _ _ (fun c hc => by have := ordersL_mem hc; omega)]
      unfold mpR
      rw [if_pos ⟨h, h2⟩]
      rfl
    · exact ev_neg h2 (ev_now (by unfold mpR; rw [if_neg (fun hh => h2 hh.2)]))
  · refine ev_neg ?_ (ev_now (by unfold mpR; rw [if_neg (fun hh => h hh.1)]))
    simp only [Bool.and_eq_true, decide_eq_true_eq]; omega
theorem spec_ev (a : Int) (p : List Int) (hl : p.length ≤ 140737488351232) : Ev (fun k => spec_MostPlaces.f k a p) (mpR a p) := by
  unfold spec_MostPlaces.f
  have hs : Ev (fun _ => spec_l3Size.f a) (decide (1 ≤ a) && decide (a ≤ 7)) := by
    unfold spec_l3Size.f
    exact ev_bind (in_ev a 1 7) (ev_now rfl)
  refine ev_bind hs ?_
  by_cases h : 1 ≤ a ∧ a ≤ 7
  · refine ev_pos (by simp; omega) (ev_bind (spec_order_ev p hl) (ev_succ ?_))
    simp only [spec_MostPlaces.j0.eq_2]
    by_cases h2 : isOrd p = true
    · obtain ⟨n, rfl⟩ : ∃ n : Nat, a = (n : Int) := ⟨a.toNat, by omega⟩
      have hf := fac_le (n := n) (by omega)
      have hp := fac_pos n
      have hlen := ordersL_len n
      refine ev_neg (by simp [h2]) (ev_bind (spec_orders_ev n (by omega)) (ev_pos (by omega) ?_))
      refine ev_eq (spec_go p (ord_len h2).2 (ordersL n) (by omega) (fun c hc => by have := ordersL_mem hc; omega) (ordersL n) [] _ _ rfl) ?_
      unfold mpR
      rw [if_pos ⟨h, h2⟩]
      show mpGo p (ordersL n) _ _ = mpGo p (ordersL n) _ _
      cases ho : ordersL n with
      | nil => rw [ho] at hlen; simp at hlen; omega
      | cons c s =>
        have hc : c.length ≤ 7 := by have := ordersL_mem (n := n) (c := c) (by rw [ho]; simp); omega
        have h0 : cpG c p > -1 := by rw [cpG_eq c p hc]; omega
        simp only [mpGo]
        rw [if_pos h0, if_pos h0]
    · exact ev_pos (by simp [h2]) (ev_now (by unfold mpR; rw [if_neg (fun hh => h2 hh.2)]))
  · refine ev_neg ?_ (ev_succ ?_)
    · simp only [Bool.and_eq_true, decide_eq_true_eq]; omega
    · simp only [spec_MostPlaces.j0.eq_2]
      exact ev_pos trivial (ev_now (by unfold mpR; rw [if_neg (fun hh => h hh.1)]))
theorem FnExactMostPlaces : laws_FnExactMostPlaces.Pure := by
  intro a p _ hmp hp _
  apply Ev.rounds (r := true)
  have hs := spec_ev a p (len_max hp)
  have hi := impl_ev a p (len_max hp)
  have ho := mpR_len a p
  generalize mpR a p = R at hs hi ho
  obtain ⟨out, m, q⟩ := R
  simp only at ho
  unfold laws_FnExactMostPlaces.f
  by_cases h1 : (p.length : Int) > 1048576
  · exact ev_pos h1 (ev_now rfl)
  refine ev_neg h1 (ev_bind (toInt_ev p hp) (ev_bind hs (ev_bind (toInt_ev p hp) (ev_bind hi (ev_bind (eqInt_ev out out (by omega)) (ev_pos (by simp) (ev_pos rfl ?_)))))))
  refine ev_succ ?_
  simp only [laws_FnExactMostPlaces.j0.eq_2]
  refine ev_neg (by simp) (ev_bind (toInt_ev p hp) (ev_bind (eqInt_ev p p hp) (ev_pos (by simp) (ev_bind (mark_ev p 1 (by omega) (by omega)) (ev_neg (by omega) (ev_bind (eqInt_ev out out (by omega)) (ev_pos (by simp) (ev_pos trivial ?_))))))))
  refine ev_succ ?_
  simp only [laws_FnExactMostPlaces.j1.eq_2]
  refine ev_neg (by simp) (ev_bind (mark_ev out 1 (by omega) (by omega)) (ev_bind (held_ev _ 1 (by omega) (by omega)) (ev_neg (by omega) (ev_pos rfl (ev_bind (toInt_ev p hp) (ev_bind hi (ev_bind (eqInt_ev out out (by omega)) (ev_pos (by simp) (ev_pos rfl ?_)))))))))
  refine ev_succ ?_
  simp only [laws_FnExactMostPlaces.j2.eq_2]
  exact ev_neg (by simp) (ev_bind (held_ev _ 1 (by omega) (by omega)) (ev_neg (by omega) (ev_pos rfl (ev_now rfl))))
end Go.Proofs.Ytjaplmgbhmgpiaa.Pure
