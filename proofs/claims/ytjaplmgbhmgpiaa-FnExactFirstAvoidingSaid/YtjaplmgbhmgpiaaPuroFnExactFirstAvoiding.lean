/- The pure statement of FnExactFirstAvoiding: program and reference tell the same first order. No condition. -/
import Derived.Test.YtjaplmgbhmgpiaaMFnExactFirstAvoidingx10
import Derived.Test.YtjaplmgbhmgpiaaBase
import Derived.Test.YtjaplmgbhmgpiaaBaseP
import Derived.Test.YtjaplmgbhmgpiaaBaseN
import Derived.Test.YtjaplmgbhmgpiaaBaseF
import Derived.Test.YtjaplmgbhmgpiaaBaseO
import Derived.Test.YtjaplmgbhmgpiaaBaseI
import Derived.Test.YtjaplmgbhmgpiaaBaseA
import Derived.Test.YtjaplmgbhmgpiaaBaseD
import Derived.Test.YtjaplmgbhmgpiaaBaseV
namespace Go.Proofs.Ytjaplmgbhmgpiaa.Pure
open Go Go.RowKit Go.Proofs.Ytjaplmgbhmgpiaa.MFnExactFirstAvoiding Go.Proofs.YtjaplmgbhmgpiaaW.PrintWords Go.Proofs.Ytjaplmgbhmgpiaa.Base
set_option linter.unusedVariables false
set_option linter.unusedSimpArgs false
/-! ### laws.toIntS, laws.eqIntS -/
theorem toInt_l (l : List Int) (hl : l.length * 8 ≤ 140737488351232) : ∀ (suf pre : List Int), l = pre ++ suf → Ev (fun k => laws_toIntS.l0 k l (pre ++ List.replicate suf.length 0) (pre.length : Int)) l := by
  intro suf
  induction suf with
  | nil =>
    intro pre e
    have h := len_end e
    refine ev_succ ?_
    simp only [laws_toIntS.l0.eq_2]
    refine ev_neg (by omega) ?_
    exact ev_now (by rw [e]; simp)
  | cons c suf ih =>
    intro pre e
    have h := len_mid e
    refine ev_succ ?_
    simp only [laws_toIntS.l0.eq_2, rd_mid' e]
    refine ev_pos (by omega) (ev_pos (by omega) (ev_pos (by simp; omega) ?_))
    rw [wrap_snoc (pre := pre) (c := c) (by omega)]
    have e2 : (pre ++ List.replicate (c :: suf).length 0).set ((pre.length : Int)).toNat c = (pre ++ [c]) ++ List.replicate suf.length 0 := by
      simp [List.replicate_succ]
    rw [e2]
    exact ih _ (snoc_mid e)
theorem toInt_ev (l : List Int) (hl : l.length * 8 ≤ 140737488351232) : Ev (fun k => laws_toIntS.f k l) l := by
  unfold laws_toIntS.f
  refine ev_pos (by omega) (ev_pos (by omega) ?_)
  have := toInt_l l hl l [] rfl
  simpa using this

theorem eqInt_l (a b : List Int) (hl : a.length * 8 ≤ 140737488351232) : ∀ (s t pre q : List Int), a = pre ++ s → b = q ++ t → pre.length = q.length → s.length = t.length → Ev (fun k => laws_eqIntS.l0 k a b (pre.length : Int)) (decide (s = t)) := by
  intro s
  induction s with
  | nil =>
    intro t pre q e e' h1 h2
    have h := len_end e
    obtain rfl : t = [] := by cases t with
      | nil => rfl
      | cons _ _ => simp at h2
    refine ev_succ ?_
    simp only [laws_eqIntS.l0.eq_2]
    refine ev_neg (by omega) ?_
    exact ev_now (by simp)
  | cons c s ih =>
    intro t pre q e e' h1 h2
    cases t with
    | nil => simp at h2
    | cons d t =>
    have h := len_mid e
    have h' := len_mid e'
    refine ev_succ ?_
    have r1 := rd_mid' e
    have r2 := rd_mid' e'
    rw [← h1] at r2
    simp only [laws_eqIntS.l0.eq_2, r1, r2]
    refine ev_pos (by omega) (ev_pos (by omega) (ev_pos (by omega) ?_))
    by_cases hc : c = d
    · refine ev_pos hc ?_
      rw [wrap_snoc (pre := pre) (c := c) (by omega)]
      refine ev_eq (ih t (pre ++ [c]) (q ++ [d]) (snoc_mid e) (snoc_mid e') (by simp [h1]) (by simpa using h2)) ?_
      simp [hc]
    · refine ev_neg hc (ev_now ?_)
      simp [hc]
theorem eqInt_ev (a b : List Int) (hl : a.length * 8 ≤ 140737488351232) : Ev (fun k => laws_eqIntS.f k a b) (decide (a = b)) := by
  unfold laws_eqIntS.f
  by_cases h : a.length = b.length
  · refine ev_pos (by omega) ?_
    exact eqInt_l a b hl a b [] [] rfl rfl rfl h
  · refine ev_neg (by omega) (ev_now ?_)
    symm
    exact decide_eq_false (fun e => h (by rw [e]))

/-! ### laws.toIntSS, laws.eqIntSS, laws.szIntSS -/
theorem rdL_mid {rows pre suf : List (List Int)} {c : List Int} (h : rows = pre ++ c :: suf) : rd_L1 rows (pre.length : Int) = c := by rw [h]; simp [rd_L1]
theorem toIntSS_l (rows : List (List Int)) (hl : rows.length ≤ 1048576) (hr : ∀ xs ∈ rows, xs.length * 8 ≤ 140737488351232) : ∀ (suf pre : List (List Int)), rows = pre ++ suf → Ev (fun k => laws_toIntSS.l0 k rows (pre ++ List.replicate suf.length []) (pre.length : Int)) rows := by
  intro suf
  induction suf with
  | nil =>
    intro pre e
    have h := len_end e
    refine ev_succ ?_
    simp only [laws_toIntSS.l0.eq_2]
    exact ev_neg (by omega) (ev_now (by rw [e]; simp))
  | cons c suf ih =>
    intro pre e
    have h := len_mid e
    refine ev_succ ?_
    simp only [laws_toIntSS.l0.eq_2, rdL_mid e]
    rw [wrap_snoc (pre := pre) (c := c) (by omega)]
    refine ev_pos (by omega) (ev_pos (by omega) (ev_bind (toInt_ev c (hr c (by rw [e]; simp))) (ev_pos (by simp; omega) ?_)))
    have e2 : (pre ++ List.replicate (c :: suf).length ([] : List Int)).set ((pre.length : Int)).toNat c = (pre ++ [c]) ++ List.replicate suf.length [] := by simp [List.replicate_succ]
    rw [e2]
    exact ih _ (snoc_mid e)
theorem toIntSS_ev (rows : List (List Int)) (hl : rows.length ≤ 1048576) (hr : ∀ xs ∈ rows, xs.length * 8 ≤ 140737488351232) : Ev (fun k => laws_toIntSS.f k rows) rows := by
  unfold laws_toIntSS.f
  refine ev_pos (by omega) (ev_pos (by omega) ?_)
  have := toIntSS_l rows hl hr rows [] rfl
  simpa using this
theorem eqIntSS_l (rows : List (List Int)) (hl : rows.length ≤ 1048576) (hr : ∀ xs ∈ rows, xs.length * 8 ≤ 140737488351232) : ∀ (suf pre : List (List Int)), rows = pre ++ suf → Ev (fun k => laws_eqIntSS.l0 k rows rows (pre.length : Int)) true := by
  intro suf
  induction suf with
  | nil =>
    intro pre e
    have h := len_end e
    refine ev_succ ?_
    simp only [laws_eqIntSS.l0.eq_2]
    exact ev_neg (by omega) (ev_now rfl)
  | cons c suf ih =>
    intro pre e
    have h := len_mid e
    refine ev_succ ?_
    simp only [laws_eqIntSS.l0.eq_2, rdL_mid e]
    rw [wrap_snoc (pre := pre) (c := c) (by omega)]
    exact ev_pos (by omega) (ev_pos (by omega) (ev_pos (by omega) (ev_bind (eqInt_ev c c (hr c (by rw [e]; simp))) (ev_pos (by simp) (ih _ (snoc_mid e))))))
theorem eqIntSS_ev (rows : List (List Int)) (hl : rows.length ≤ 1048576) (hr : ∀ xs ∈ rows, xs.length * 8 ≤ 140737488351232) : Ev (fun k => laws_eqIntSS.f k rows rows) true := by
  unfold laws_eqIntSS.f
  exact ev_pos rfl (eqIntSS_l rows hl hr rows [] rfl)

theorem szIntSS_l (rows : List (List Int)) (hl : rows.length ≤ 1048576) (hr : ∀ xs ∈ rows, xs.length ≤ maxLen) : ∀ (suf pre : List (List Int)) (x : Int), rows = pre ++ suf → 0 ≤ x → x ≤ 1048576 → ∃ v, Ev (fun k => laws_szIntSS.l0 k rows x (pre.length : Int)) v ∧ (v < 0 ∨ ∀ xs ∈ suf, xs.length ≤ 1048576) := by
  intro suf
  induction suf with
  | nil =>
    intro pre x e _ _
    have h := len_end e
    refine ⟨x, ev_succ ?_, .inr (by simp)⟩
    simp only [laws_szIntSS.l0.eq_2]
    exact ev_neg (by omega) (ev_now rfl)
  | cons c suf ih =>
    intro pre x e h0 h1
    have h := len_mid e
    have hc := hr c (by rw [e]; simp)
    unfold maxLen at hc
    by_cases hx : x - (c.length : Int) < 0
    · refine ⟨-1, ev_succ ?_, .inl (by decide)⟩
      simp only [laws_szIntSS.l0.eq_2, rdL_mid e]
      refine ev_pos (by omega) (ev_pos (by omega) (ev_bind (a := -1) ?_ (ev_pos (by decide) (ev_now rfl))))
      unfold laws_szIntS.f
      rw [wrap_of (by omega) (by omega)]
      exact ev_pos hx (ev_now rfl)
    · obtain ⟨v, hv, hq⟩ := ih (pre ++ [c]) (x - c.length) (snoc_mid e) (by omega) (by omega)
      refine ⟨v, ev_succ ?_, ?_⟩
      · simp only [laws_szIntSS.l0.eq_2, rdL_mid e]
        rw [wrap_snoc (pre := pre) (c := c) (by omega)]
        refine ev_pos (by omega) (ev_pos (by omega) (ev_bind (a := x - c.length) ?_ (ev_neg hx hv)))
        unfold laws_szIntS.f
        rw [wrap_of (by omega) (by omega)]
        exact ev_neg hx (ev_now rfl)
      · rcases hq with hq | hq
        · exact .inl hq
        · refine .inr (fun xs hxs => ?_)
          rcases List.mem_cons.1 hxs with rfl | hxs
          · omega
          · exact hq xs hxs
/-- What is not too much is small. -/
theorem szIntSS_ev (rows : List (List Int)) (hm : rows.length ≤ maxLen) (hr : ∀ xs ∈ rows, xs.length ≤ maxLen) : ∃ v, Ev (fun k => laws_szIntSS.f k rows 1048576) v ∧ (v < 0 ∨ rows.length ≤ 1048576 ∧ ∀ xs ∈ rows, xs.length ≤ 1048576) := by
  unfold maxLen at hm
  by_cases hx : (1048576 : Int) - (rows.length : Int) < 0
  · refine ⟨-1, ?_, .inl (by decide)⟩
    unfold laws_szIntSS.f
    rw [wrap_of (by omega) (by omega)]
    exact ev_pos hx (ev_now rfl)
  · obtain ⟨v, hv, hq⟩ := szIntSS_l rows (by omega) hr rows [] (1048576 - rows.length) rfl (by omega) (by omega)
    refine ⟨v, ?_, ?_⟩
    · unfold laws_szIntSS.f
      rw [wrap_of (by omega) (by omega)]
      exact ev_neg hx hv
    · rcases hq with hq | hq
      · exact .inl hq
      · exact .inr ⟨by omega, hq⟩

theorem same_l (a b : List Int) (hl : a.length * 8 ≤ 140737488351232) : ∀ (s t pre q : List Int), a = pre ++ s → b = q ++ t → pre.length = q.length → s.length = t.length → Ev (fun k => spec_l1Same.l0 k a b (pre.length : Int)) (decide (s = t)) := by
  intro s
  induction s with
  | nil =>
    intro t pre q e e' h1 h2
    have h := len_end e
    obtain rfl : t = [] := by cases t with
      | nil => rfl
      | cons _ _ => simp at h2
    refine ev_succ ?_
    simp only [spec_l1Same.l0.eq_2]
    refine ev_neg (by omega) ?_
    exact ev_now (by simp)
  | cons c s ih =>
    intro t pre q e e' h1 h2
    cases t with
    | nil => simp at h2
    | cons d t =>
    have h := len_mid e
    have h' := len_mid e'
    refine ev_succ ?_
    have r1 := rd_mid' e
    have r2 := rd_mid' e'
    rw [← h1] at r2
    simp only [spec_l1Same.l0.eq_2, r1, r2]
    refine ev_pos (by omega) (ev_pos (by omega) (ev_pos (by omega) ?_))
    by_cases hc : c = d
    · refine ev_pos hc ?_
      rw [wrap_snoc (pre := pre) (c := c) (by omega)]
      refine ev_eq (ih t (pre ++ [c]) (q ++ [d]) (snoc_mid e) (snoc_mid e') (by simp [h1]) (by simpa using h2)) ?_
      simp [hc]
    · refine ev_neg hc (ev_now ?_)
      simp [hc]
theorem same_ev (a b : List Int) (hl : a.length * 8 ≤ 140737488351232) : Ev (fun k => spec_l1Same.f k a b) (decide (a = b)) := by
  unfold spec_l1Same.f
  by_cases h : a.length = b.length
  · refine ev_pos (by omega) ?_
    exact same_l a b hl a b [] [] rfl rfl rfl h
  · refine ev_neg (by omega) (ev_now ?_)
    symm
    exact decide_eq_false (fun e => h (by rw [e]))

/-! ### Is it an order? -/
theorem in_ev (a b c : Int) : Ev (fun _ => spec_l1In.f a b c) (decide (b ≤ a) && decide (a ≤ c)) := by
  unfold spec_l1In.f
  by_cases h : a ≥ b
  · refine ev_pos h (ev_now ?_)
    have : decide (b ≤ a) = true := decide_eq_true h
    rw [this]; rfl
  · refine ev_neg h (ev_now ?_)
    have : decide (b ≤ a) = false := decide_eq_false (by omega)
    rw [this]; rfl

theorem has_l (l : List Int) (x : Int) (hl : l.length ≤ 140737488351232) : ∀ (suf pre : List Int), l = pre ++ suf → Ev (fun k => spec_l1Has.l0 k l x (pre.length : Int)) (decide (x ∈ suf)) := by
  intro suf
  induction suf with
  | nil =>
    intro pre e
    have h := len_end e
    refine ev_succ ?_
    simp only [spec_l1Has.l0.eq_2]
    refine ev_neg (by omega) ?_
    exact ev_now (by simp)
  | cons c suf ih =>
    intro pre e
    have h := len_mid e
    refine ev_succ ?_
    simp only [spec_l1Has.l0.eq_2, rd_mid' e]
    refine ev_pos (by omega) (ev_pos (by omega) ?_)
    by_cases hc : c = x
    · exact ev_pos hc (ev_now (by simp [hc]))
    · refine ev_neg hc ?_
      rw [wrap_snoc (pre := pre) (c := c) (by omega)]
      refine ev_eq (ih _ (snoc_mid e)) ?_
      have : x ≠ c := fun h => hc h.symm
      simp [this]
theorem has_ev (l : List Int) (x : Int) (hl : l.length ≤ 140737488351232) : Ev (fun k => spec_l1Has.f k l x) (decide (x ∈ l)) := by
  unfold spec_l1Has.f
  exact has_l l x hl l [] rfl
theorem idx_l (l : List Int) (x : Int) (hl : l.length ≤ 140737488351232) : ∀ (suf pre : List Int), l = pre ++ suf → Ev (fun k => slices_Index_int_int.l0 k l x (l.length : Int) (pre.length : Int)) (if x ∈ suf then ((pre.length + suf.idxOf x : Nat) : Int) else -1) := by
  intro suf
  induction suf with
  | nil =>
    intro pre e
    have h := len_end e
    refine ev_succ ?_
    simp only [slices_Index_int_int.l0.eq_2]
    refine ev_neg (by omega) ?_
    exact ev_now (by simp)
  | cons c suf ih =>
    intro pre e
    have h := len_mid e
    refine ev_succ ?_
    simp only [slices_Index_int_int.l0.eq_2, rd_mid' e]
    refine ev_pos (by omega) (ev_pos (by omega) (ev_pos (by omega) ?_))
    by_cases hc : x = c
    · exact ev_pos hc (ev_now (by simp [hc]))
    · refine ev_neg hc ?_
      rw [wrap_snoc (pre := pre) (c := c) (by omega)]
      refine ev_eq (ih _ (snoc_mid e)) ?_
      have hc' : ¬ c = x := fun h => hc h.symm
      have hb : (c == x) = false := by simpa using hc'
      simp only [List.mem_cons, hc, false_or, List.idxOf_cons, hb, cond_false]
      by_cases hm : x ∈ suf
      · rw [if_pos hm, if_pos hm]; simp; omega
      · rw [if_neg hm, if_neg hm]
theorem idx_ev (l : List Int) (x : Int) (hl : l.length ≤ 140737488351232) : Ev (fun k => slices_Index_int_int.f k l x) (if x ∈ l then ((l.idxOf x : Nat) : Int) else -1) := by
  unfold slices_Index_int_int.f
  simpa using idx_l l x hl l [] rfl
theorem contains_ev (l : List Int) (x : Int) (hl : l.length ≤ 140737488351232) : Ev (fun k => slices_Contains_int_int.f k l x) (decide (x ∈ l)) := by
  unfold slices_Contains_int_int.f
  refine ev_bind (idx_ev l x hl) (ev_now ?_)
  by_cases h : x ∈ l
  · simp [h]
  · simp [h]


theorem spec_order_l (l : List Int) (hl : l.length ≤ 140737488351232) : ∀ (suf pre : List Int), l = pre ++ suf → Ev (fun k => spec_l2Order.l0 k l (pre.length : Int)) (ordGo (l.length : Int) pre suf) := by
  intro suf
  induction suf with
  | nil =>
    intro pre e
    have h := len_end e
    refine ev_succ ?_
    simp only [spec_l2Order.l0.eq_2]
    refine ev_neg (by omega) ?_
    exact ev_now rfl
  | cons c suf ih =>
    intro pre e
    have h := len_mid e
    refine ev_succ ?_
    simp only [spec_l2Order.l0.eq_2, rd_mid' e, take_mid e]
    refine ev_pos (by omega) (ev_pos (by omega) (ev_bind (in_ev _ _ _) ?_))
    by_cases hr : 1 ≤ c ∧ c ≤ (l.length : Int)
    · refine ev_pos (by simp [hr.1, hr.2]) (ev_pos (by omega) (ev_bind (has_ev pre c (by omega)) ?_))
      by_cases hc : c ∈ pre
      · exact ev_pos (by simp [hc]) (ev_now (by simp [ordGo, hc]))
      · refine ev_neg (by simp [hc]) ?_
        rw [wrap_snoc (pre := pre) (c := c) (by omega)]
        refine ev_eq (ih _ (snoc_mid e)) ?_
        simp [ordGo, hr.1, hr.2, hc]
    · refine ev_neg (by simp; omega) (ev_now ?_)
      simp only [ordGo]
      rw [if_neg (fun h => hr ⟨h.1, h.2.1⟩)]
theorem spec_order_ev (l : List Int) (hl : l.length ≤ 140737488351232) : Ev (fun k => spec_l2Order.f k l) (isOrd l) := by
  unfold spec_l2Order.f
  refine ev_bind (in_ev _ _ _) ?_
  unfold isOrd
  by_cases h : 1 ≤ l.length ∧ l.length ≤ 7
  · refine ev_pos (by simp; omega) ?_
    rw [if_pos h]
    exact spec_order_l l hl l [] rfl
  · refine ev_neg (by simp; omega) (ev_now ?_)
    rw [if_neg h]
theorem impl_order_l (l : List Int) (hl : l.length ≤ 140737488351232) : ∀ (suf pre : List Int), l = pre ++ suf → Ev (fun k => impl_isOrder.l0 k l l (l.length : Int) (pre.length : Int)) (ordGo (l.length : Int) pre suf) := by
  intro suf
  induction suf with
  | nil =>
    intro pre e
    have h := len_end e
    refine ev_succ ?_
    simp only [impl_isOrder.l0.eq_2]
    refine ev_neg (by omega) ?_
    exact ev_now rfl
  | cons c suf ih =>
    intro pre e
    have h := len_mid e
    refine ev_succ ?_
    simp only [impl_isOrder.l0.eq_2, rd_mid' e, take_mid e]
    refine ev_pos (by omega) (ev_pos (by omega) (ev_pos (by omega) ?_))
    by_cases h1 : c < 1
    · exact ev_pos h1 (ev_now (by simp only [ordGo]; rw [if_neg (fun h => by omega)]))
    refine ev_neg h1 ?_
    by_cases h2 : c > (l.length : Int)
    · exact ev_pos h2 (ev_now (by simp only [ordGo]; rw [if_neg (fun h => by omega)]))
    refine ev_neg h2 (ev_pos (by omega) (ev_bind (contains_ev pre c (by omega)) ?_))
    by_cases hc : c ∈ pre
    · exact ev_pos (by simp [hc]) (ev_now (by simp [ordGo, hc]))
    · refine ev_neg (by simp [hc]) ?_
      rw [wrap_snoc (pre := pre) (c := c) (by omega)]
      refine ev_eq (ih _ (snoc_mid e)) ?_
      simp only [ordGo]
      rw [if_pos ⟨by omega, by omega, hc⟩]
theorem impl_order_ev (l : List Int) (hl : l.length ≤ 140737488351232) : Ev (fun k => impl_isOrder.f k l) (isOrd l) := by
  have key : ∀ b : Bool, Ev (fun k => impl_isOrder.j0 k l b) (if b = true then false else ordGo (l.length : Int) [] l) := by
    intro b
    refine ev_succ ?_
    simp only [impl_isOrder.j0.eq_2]
    cases b with
    | true => exact ev_pos rfl (ev_now rfl)
    | false => exact ev_neg (by simp) (impl_order_l l hl l [] rfl)
  unfold impl_isOrder.f isOrd
  by_cases h1 : (l.length : Int) < 1
  · refine ev_pos h1 (ev_eq (key true) ?_)
    rw [if_pos rfl, if_neg (fun h => by omega)]
  · refine ev_neg h1 (ev_eq (key _) ?_)
    by_cases h2 : (l.length : Int) > 7
    · rw [if_neg (c := 1 ≤ l.length ∧ l.length ≤ 7) (fun h => by omega), if_pos (decide_eq_true h2)]
    · rw [if_pos (c := 1 ≤ l.length ∧ l.length ≤ 7) ⟨by omega, by omega⟩, if_neg (by simp; omega)]


theorem isSize_ev (n : Int) : Ev (fun _ => impl_isSize.f n) (decide (1 ≤ n) && decide (n ≤ 7)) := by
  unfold impl_isSize.f
  by_cases h : n ≥ 1
  · refine ev_pos h (ev_now ?_)
    have : decide (1 ≤ n) = true := decide_eq_true h
    rw [this]; rfl
  · refine ev_neg h (ev_now ?_)
    have : decide (1 ≤ n) = false := decide_eq_false (by omega)
    rw [this]; rfl

/-! ### factorials, the sorted order -/
theorem fact_tab : ∀ i : Fin 8, impl_factorial.f 20 ((i.val : Nat) : Int) = some ((fac i.val : Nat) : Int) := by decide +kernel
theorem fact_ev (n : Nat) (h : n ≤ 7) : Ev (fun k => impl_factorial.f k (n : Int)) ((fac n : Nat) : Int) := Ev.of (fun k => impl_factorial.mono _ k) (fact_tab ⟨n, by omega⟩)
theorem sorted_tab : ∀ i : Fin 8, impl_sorted.f 20 ((i.val : Nat) : Int) = some (iota 1 i.val) := by decide +kernel
theorem sorted_ev (n : Nat) (h : n ≤ 7) : Ev (fun k => impl_sorted.f k (n : Int)) (iota 1 n) := Ev.of (fun k => impl_sorted.mono _ k) (sorted_tab ⟨n, by omega⟩)
theorem delete_ev (l : List Int) (i : Nat) (h : i < l.length) (hl : l.length ≤ 7) : Ev (fun _ => slices_Delete_int_int.f l (i : Int) (wrap64 ((i : Int) + 1))) (l.eraseIdx i) := by
  unfold slices_Delete_int_int.f
  rw [wrap_of (by omega) (by omega)]
  refine ev_pos (by omega) (ev_pos (by omega) (ev_pos (by omega) (ev_now ?_)))
  rw [← take_drop_erase]
  simp

/-! ### shape -/
theorem spec_shape_in (l : List Int) (hl : l.length ≤ 7) (x : Int) (i : Int) (hi : 0 ≤ i ∧ i < l.length) (hx : rd l i = x) (out R : List Int) (ho : out.length ≤ 7) : ∀ (suf pre : List Int) (a : Int), l = pre ++ suf → 0 ≤ a → a + suf.length ≤ 100 → Ev (fun k => spec_l3Shape.l0 k l (out ++ [a + lessN x suf]) (wrap64 (i + 1))) R → Ev (fun k => spec_l3Shape.l1 k l out i a (pre.length : Int)) R := by
  intro suf
  induction suf with
  | nil =>
    intro pre a e h0 h1 hR
    have h := len_end e
    refine ev_succ ?_
    simp only [spec_l3Shape.l1.eq_2]
    refine ev_neg (by omega) (ev_pos (by omega) ?_)
    simpa [lessN] using hR
  | cons c suf ih =>
    intro pre a e h0 h1 hR
    have h := len_mid e
    simp only [List.length_cons] at h1
    refine ev_succ ?_
    simp only [spec_l3Shape.l1.eq_2, rd_mid' e, hx]
    rw [wrap_snoc (pre := pre) (c := c) (by omega)]
    refine ev_pos (by omega) (ev_pos (by omega) (ev_pos (by omega) (ev_pos (by omega) ?_)))
    rw [lessN_cons] at hR
    by_cases hc : c < x
    · refine ev_pos hc ?_
      rw [wrap_of (x := a + 1) (by omega) (by omega)]
      refine ih _ _ (snoc_mid e) (by omega) (by omega) ?_
      rw [if_pos hc] at hR
      rwa [show a + 1 + (lessN x suf : Int) = a + ((1 + lessN x suf : Nat) : Int) by omega]
    · refine ev_neg hc (ih _ _ (snoc_mid e) (by omega) (by omega) ?_)
      rw [if_neg hc] at hR
      simpa using hR
theorem spec_shape_l (l : List Int) (hl : l.length ≤ 7) : ∀ (suf pre out : List Int), l = pre ++ suf → out.length = pre.length → Ev (fun k => spec_l3Shape.l0 k l out (pre.length : Int)) (out ++ suf.map (fun x => ((1 + lessN x l : Nat) : Int))) := by
  intro suf
  induction suf with
  | nil =>
    intro pre out e ho
    have h := len_end e
    refine ev_succ ?_
    simp only [spec_l3Shape.l0.eq_2]
    exact ev_neg (by omega) (ev_now (by simp))
  | cons c suf ih =>
    intro pre out e ho
    have h := len_mid e
    refine ev_succ ?_
    simp only [spec_l3Shape.l0.eq_2]
    refine ev_pos (by omega) (spec_shape_in l hl c _ ⟨by omega, by omega⟩ (rd_mid' e) out _ (by omega) l [] 1 rfl (by omega) (by omega) ?_)
    rw [wrap_snoc (pre := pre) (c := c) (by omega)]
    refine ev_eq (ih _ _ (snoc_mid e) ?_) ?_
    · simp [ho]
    · simp
theorem spec_shape_ev (l : List Int) (hl : l.length ≤ 7) : Ev (fun k => spec_l3Shape.f k l) (shapeL l) := by
  unfold spec_l3Shape.f shapeL
  exact spec_shape_l l hl l [] [] rfl rfl

theorem own_ev (l : List Int) (h : l.length ≤ 1000000) : Ev (fun _ => spec_l1Own.f l) l := by
  unfold spec_l1Own.f
  exact ev_let (ev_pos (by simp; omega) (ev_now (by simp)))

def hit (l p xs : List Int) : Bool := decide (shapeL (atG l xs) = p)
/-! ### l3Goes: the search by shapes of beginnings comes to what all choices tell -/
def inB (l p : List Int) : Bool := (chA l.length p.length l.length []).any (hit l p)
theorem ch_ext (n many : Nat) : ∀ (r : Nat) (done xs : List Int), xs ∈ chL n many r done → ∃ t, xs = done ++ t := by
  intro r
  induction r with
  | zero => intro done xs h; cases h
  | succ r ih =>
    intro done xs h
    rw [chL_succ] at h
    rcases List.mem_append.1 h with h | h
    · unfold chA at h
      split at h
      · exact ⟨_, List.mem_singleton.1 h⟩
      · obtain ⟨t, e⟩ := ih _ xs h
        exact ⟨_, by rw [e, List.append_assoc]⟩
    · exact ih done xs h
theorem chA_ext (n many r : Nat) (done xs : List Int) (h : xs ∈ chA n many r done) : ∃ t, xs = done ++ t := by
  unfold chA at h
  split at h
  · exact ⟨[], by simpa using List.mem_singleton.1 h⟩
  · exact ch_ext n many r done xs h
theorem goes_f (l p : List Int) (hl : l.length ≤ 7) (hp : p.length ≤ 7) (hp1 : 1 ≤ p.length) (hs : shapeL p = p) (r : Nat) (done : List Int) (hd : done.length + r ≤ l.length) (hm : done.length ≤ p.length)
    (L : done.length < p.length → Ev (fun k => spec_l3Goes.l0 k l p (atG l done) ((l.length - r : Nat) : Int)) ((chL l.length p.length r done).any (hit l p))) :
    Ev (fun k => spec_l3Goes.f k l p (atG l done) ((l.length - r : Nat) : Int)) ((chA l.length p.length r done).any (hit l p)) := by
  have ha : (atG l done).length = done.length := by simp [atG]
  refine ev_succ ?_
  simp only [spec_l3Goes.f.eq_2]
  have J : ∀ b : Bool, (b = true → (chA l.length p.length r done).any (hit l p) = false) → (b = false → done.length = p.length → shapeL (atG l done) = shapeL (p.take done.length)) → Ev (fun k => spec_l3Goes.j0 k l p (atG l done) ((l.length - r : Nat) : Int) b) ((chA l.length p.length r done).any (hit l p)) := by
    intro b h1 h2
    refine ev_succ ?_
    simp only [spec_l3Goes.j0.eq_2]
    cases b with
    | true => rw [h1 rfl]; exact ev_pos rfl (ev_now rfl)
    | false =>
      refine ev_neg (by simp) ?_
      by_cases hq : done.length = p.length
      · refine ev_pos (by omega) (ev_now ?_)
        have := h2 rfl hq
        rw [hq, List.take_length, hs] at this
        unfold chA
        rw [if_pos hq]
        simp [hit, this]
      · refine ev_neg (by omega) ?_
        unfold chA
        rw [if_neg hq]
        exact L (by omega)
  by_cases hz : (done.length : Int) > 0
  · refine ev_pos (by omega) (ev_bind (spec_shape_ev _ (by omega)) (ev_pos (by omega) (ev_pos (by omega) ?_)))
    rw [show (((atG l done).length : Int)).toNat = done.length by omega]
    refine ev_bind (spec_shape_ev _ (by simp; omega)) (ev_bind (same_ev _ _ (by simp [shapeL]; omega)) (J _ ?_ ?_))
    · intro hb
      have hb : ¬ shapeL (atG l done) = shapeL (p.take done.length) := by simpa using hb
      rw [List.any_eq_false]
      intro xs hx hh
      obtain ⟨t, e⟩ := chA_ext _ _ _ _ _ hx
      refine hb ?_
      have hh : shapeL (atG l xs) = shapeL p := by rw [hs]; simpa [hit] using hh
      have h3 := shape_take hh done.length
      rw [e, show atG l (done ++ t) = atG l done ++ atG l t by simp [atG], List.take_left' ha] at h3
      exact h3
    · intro hb _
      simpa using hb
  · exact ev_neg (by omega) (J false (by simp) (fun _ h => by omega))
theorem goes_l (l p : List Int) (hl : l.length ≤ 7) (hp : p.length ≤ 7) (hp1 : 1 ≤ p.length) (hs : shapeL p = p) : ∀ (r : Nat), r ≤ l.length →
    (∀ (done : List Int), done.length + r ≤ l.length → done.length < p.length → Ev (fun k => spec_l3Goes.l0 k l p (atG l done) ((l.length - r : Nat) : Int)) ((chL l.length p.length r done).any (hit l p))) := by
  intro r
  induction r with
  | zero =>
    intro hr done hd hm
    refine ev_succ ?_
    simp only [spec_l3Goes.l0.eq_2]
    exact ev_neg (by omega) (ev_now (by simp [chL]))
  | succ r ih =>
    intro hr done hd hm
    have ih1 := ih (by omega)
    have ha : (atG l done).length = done.length := by simp [atG]
    refine ev_succ ?_
    simp only [spec_l3Goes.l0.eq_2]
    rw [wrap_of (x := ((l.length - (r + 1) : Nat) : Int) + 1) (by omega) (by omega), show ((l.length - (r + 1) : Nat) : Int) + 1 = ((l.length - r : Nat) : Int) by omega]
    rw [chL_succ, List.any_append]
    have h2 := goes_f l p hl hp hp1 hs r (done ++ [((l.length - (r + 1) : Nat) : Int)]) (by simp; omega) (by simp; omega) (fun hq => ih1 _ (by simp; omega) hq)
    rw [show atG l (done ++ [((l.length - (r + 1) : Nat) : Int)]) = atG l done ++ [rd l ((l.length - (r + 1) : Nat) : Int)] by simp [atG]] at h2
    refine ev_pos (by omega) (ev_bind (own_ev _ (by omega)) (ev_pos (by omega) (ev_let (ev_pos (by simp; omega) (ev_bind h2 ?_)))))
    by_cases hb : (chA l.length p.length r (done ++ [((l.length - (r + 1) : Nat) : Int)])).any (hit l p) = true
    · exact ev_pos hb (ev_now (by rw [hb]; rfl))
    · exact ev_neg hb (ev_eq (ih1 done (by omega) hm) (by simp only [Bool.not_eq_true] at hb; rw [hb]; rfl))
theorem spec_in_ev (l p : List Int) (hl : l.length ≤ 7) (hp : isOrd p = true) : Ev (fun k => spec_l3In.f k l p) (inB l p) := by
  unfold spec_l3In.f inB
  have h1 := ord_len hp
  have h2 := goes_f l p hl h1.2 h1.1 (shape_ord hp) l.length [] (by simp) (by simp) (fun hq => goes_l l p hl h1.2 h1.1 (shape_ord hp) l.length (Nat.le_refl _) [] (by simp) hq)
  rw [Nat.sub_self] at h2
  exact ev_bind h2 (ev_now rfl)

/-! ### choose, where the callback stops it at the first hit -/
def foundR (o : Option (List Int)) (p : (List Int × Bool) × Bool) : Prop :=
  match o with
  | some xs => p = ((xs, true), true)
  | none => p.1.2 = false ∧ p.2 = false
theorem loopG_find {h : List Int → Bool} {f : List Int × Bool → List Int → (List Int × Bool) × Bool} (hf : ∀ s xs, f s xs = ((xs, h xs), h xs)) (n many : Nat) :
    ∀ (r : Nat) (done : List Int) (s : List Int × Bool), s.2 = false → foundR ((chL n many r done).find? h) (loopG f n many r done s) := by
  intro r
  induction r with
  | zero => intro done s hs; exact ⟨hs, rfl⟩
  | succ r ih =>
    intro done s hs
    simp only [loopG, chL, List.find?_append]
    by_cases hm : done.length + 1 = many
    · rw [if_pos hm, if_pos hm, hf]
      by_cases hh : h (done ++ [((n - (r + 1) : Nat) : Int)]) = true
      · rw [hh]; simp [hh, foundR]
      · have hh : h (done ++ [((n - (r + 1) : Nat) : Int)]) = false := by simpa using hh
        rw [hh]
        simp only [List.find?_cons, hh, List.find?_nil, Bool.false_eq_true, if_false, Option.none_or]
        exact ih done _ rfl
    · rw [if_neg hm, if_neg hm]
      have h1 := ih (done ++ [((n - (r + 1) : Nat) : Int)]) s hs
      cases he : (chL n many r (done ++ [((n - (r + 1) : Nat) : Int)])).find? h with
      | some xs =>
        rw [he] at h1
        simp only [foundR] at h1
        rw [h1]; simp [foundR]
      | none =>
        rw [he] at h1
        obtain ⟨h2, h3⟩ := h1
        rw [h3]
        simp only [Bool.false_eq_true, if_false, Option.none_or]
        exact ih done _ h2
theorem addG_find {h : List Int → Bool} {f : List Int × Bool → List Int → (List Int × Bool) × Bool} (hf : ∀ s xs, f s xs = ((xs, h xs), h xs)) (n many r : Nat) (done : List Int) (s : List Int × Bool) (hs : s.2 = false) : foundR ((chA n many r done).find? h) (addG f n many r done s) := by
  unfold addG chA
  by_cases hm : done.length = many
  · rw [if_pos hm, if_pos hm, hf]
    by_cases hh : h done = true
    · rw [hh]; simp [hh, foundR]
    · have hh : h done = false := by simpa using hh
      rw [hh]; simp [hh, foundR]
  · rw [if_neg hm, if_neg hm]; exact loopG_find hf n many r done s hs
def firstR (l p : List Int) : List Int × Bool :=
  match (chA l.length p.length l.length []).find? (hit l p) with
  | some xs => (xs, true)
  | none => ([], false)
theorem fpR_eq (l p : List Int) : fpR l p = firstR l p := by
  have h := addG_find (h := hit l p) (f := fpF l p) (fun s xs => rfl) l.length p.length l.length [] ([], false) rfl
  unfold fpR fpG firstR
  cases he : (chA l.length p.length l.length []).find? (hit l p) with
  | some xs => rw [he] at h; simp only [foundR] at h; rw [h]; rfl
  | none => rw [he] at h; obtain ⟨h2, _⟩ := h; rw [h2]; rfl
theorem impl_first_ev (l p : List Int) (hl : l.length ≤ 7) (hp : p.length ≤ 7) : Ev (fun _ => impl_firstPlaces.f l p) (firstR l p) := by
  unfold impl_firstPlaces.f
  exact ev_pos ⟨hl, hp⟩ (ev_now (fpR_eq l p))
theorem firstR_len (l p : List Int) : (firstR l p).1.length ≤ p.length := by
  unfold firstR
  cases he : (chA l.length p.length l.length []).find? (hit l p) with
  | some xs => exact Nat.le_of_eq (chA_mem _ _ xs (List.mem_of_find?_eq_some he)).1
  | none => exact Nat.zero_le _

theorem inB_first (l p : List Int) : (firstR l p).2 = inB l p := by
  unfold firstR inB
  cases he : (chA l.length p.length l.length []).find? (hit l p) with
  | some xs =>
    have h1 := List.mem_of_find?_eq_some he
    have h2 := List.find?_some he
    exact (List.any_eq_true.2 ⟨xs, h1, h2⟩).symm
  | none =>
    rw [List.find?_eq_none] at he
    exact (List.any_eq_false.2 he).symm
theorem impl_in_ev (l p : List Int) (hl : l.length ≤ 7) (hp : p.length ≤ 7) : Ev (fun _ => impl_contains.f l p) (inB l p) := by
  unfold impl_contains.f
  exact ev_bind (impl_first_ev l p hl hp) (ev_now (inB_first l p))

/-! ### are they patterns? -/
theorem spec_patterns_l (rows : List (List Int)) (hl : rows.length ≤ 1048576) (hr : ∀ xs ∈ rows, xs.length ≤ 1048576) : ∀ (suf pre : List (List Int)), rows = pre ++ suf → pre.length ≤ 5 → (rows.length : Int) ≤ 4 ∨ 4 < (rows.length : Int) → Ev (fun k => spec_l3Patterns.l0 k rows (pre.length : Int)) (decide ((rows.length : Int) ≤ 4) && !suf.any (fun xs => !isOrd xs)) := by
  intro suf
  induction suf with
  | nil =>
    intro pre e hp _
    have h := len_end e
    refine ev_succ ?_
    simp only [spec_l3Patterns.l0.eq_2]
    refine ev_neg (by omega) (ev_succ ?_)
    simp only [spec_l3Patterns.j1.eq_2]
    exact ev_neg (by simp) (ev_now (by simp))
  | cons c suf ih =>
    intro pre e hp hd
    have h := len_mid e
    refine ev_succ ?_
    simp only [spec_l3Patterns.l0.eq_2]
    refine ev_pos (by omega) (ev_succ ?_)
    simp only [spec_l3Patterns.j1.eq_2, rdL_mid e]
    by_cases h4 : (pre.length : Int) ≤ 4
    · refine ev_pos (decide_eq_true h4) (ev_pos (by omega) (ev_pos (by omega) (ev_bind (spec_order_ev c (by have := hr c (by rw [e]; simp); omega)) ?_)))
      by_cases hc : isOrd c = true
      · rw [wrap_snoc (pre := pre) (c := c) (by omega)]
        refine ev_pos hc (ev_eq (ih _ (snoc_mid e) (by simp; omega) hd) ?_)
        simp [hc]
      · exact ev_neg hc (ev_now (by simp [hc]))
    · refine ev_neg (by simpa using h4) (ev_now ?_)
      have : decide ((rows.length : Int) ≤ 4) = false := decide_eq_false (by omega)
      rw [this]; rfl
theorem spec_patterns_ev (rows : List (List Int)) (hl : rows.length ≤ 1048576) (hr : ∀ xs ∈ rows, xs.length ≤ 1048576) : Ev (fun k => spec_l3Patterns.f k rows) (arePats rows) := by
  unfold spec_l3Patterns.f arePats
  exact spec_patterns_l rows hl hr rows [] rfl (by simp) (by omega)
theorem impl_patterns_ev (rows : List (List Int)) (hl : rows.length ≤ 1048576) (hr : ∀ xs ∈ rows, xs.length ≤ 1048576) : Ev (fun _ => impl_arePatterns.f rows) (arePats rows) := by
  unfold impl_arePatterns.f
  exact ev_pos ⟨by omega, fun xs hx => by have := hr xs hx; omega⟩ (ev_now rfl)
theorem pats_all {rows : List (List Int)} (h : arePats rows = true) : rows.length ≤ 4 ∧ ∀ xs ∈ rows, isOrd xs = true := by
  unfold arePats at h
  simp only [Bool.and_eq_true, decide_eq_true_eq, Bool.not_eq_true', List.any_eq_false] at h
  exact ⟨by omega, fun xs hx => by have := h.2 xs hx; simpa using this⟩

/-! ### does an order avoid them all? -/
def avB (l : List Int) (rows : List (List Int)) : Bool := !rows.any (inB l)
theorem spec_avoids_l (l : List Int) (hl : l.length ≤ 7) (rows : List (List Int)) (hn : rows.length ≤ 1048576) (hr : ∀ xs ∈ rows, isOrd xs = true) : ∀ (suf pre : List (List Int)), rows = pre ++ suf → Ev (fun k => spec_l3Avoids.l0 k l rows (pre.length : Int)) (!suf.any (inB l)) := by
  intro suf
  induction suf with
  | nil =>
    intro pre e
    have h := len_end e
    refine ev_succ ?_
    simp only [spec_l3Avoids.l0.eq_2]
    exact ev_neg (by omega) (ev_now rfl)
  | cons c suf ih =>
    intro pre e
    have h := len_mid e
    refine ev_succ ?_
    simp only [spec_l3Avoids.l0.eq_2, rdL_mid e]
    refine ev_pos (by omega) (ev_pos (by omega) (ev_bind (spec_in_ev l c hl (hr c (by rw [e]; simp))) ?_))
    by_cases hc : inB l c = true
    · exact ev_pos hc (ev_now (by simp [hc]))
    · rw [wrap_snoc (pre := pre) (c := c) (by omega)]
      refine ev_neg hc (ev_eq (ih _ (snoc_mid e)) ?_)
      simp only [Bool.not_eq_true] at hc
      rw [List.any_cons, hc, Bool.false_or]
theorem spec_avoids_ev (l : List Int) (hl : l.length ≤ 7) (rows : List (List Int)) (hn : rows.length ≤ 1048576) (hr : ∀ xs ∈ rows, isOrd xs = true) : Ev (fun k => spec_l3Avoids.f k l rows) (avB l rows) := by
  unfold spec_l3Avoids.f
  exact spec_avoids_l l hl rows hn hr rows [] rfl
theorem impl_avoids_ev (l : List Int) (hl : l.length ≤ 7) (rows : List (List Int)) (hn : rows.length ≤ 1048576) (hr : ∀ xs ∈ rows, isOrd xs = true) : Ev (fun _ => impl_avoids.f l rows) (avB l rows) := by
  unfold impl_avoids.f
  refine ev_pos ⟨hl, by omega, fun xs hx => (ord_len (hr xs hx)).2⟩ (ev_now ?_)
  unfold avoidsG avB
  have e : (fun p => (fpR l p).2) = inB l := by funext p; rw [fpR_eq, inB_first]
  rw [e]

/-! ### an order with a last number more -/
theorem spec_ins_l (l : List Int) (q : Int) (hl : l.length ≤ 7) (hr : ∀ x ∈ l, 1 ≤ x ∧ x ≤ 100) : ∀ (suf pre out : List Int), l = pre ++ suf → out.length = pre.length → Ev (fun k => spec_l3Insert.l0 k l q out (pre.length : Int)) (out ++ insertL suf q) := by
  intro suf
  induction suf with
  | nil =>
    intro pre out e ho
    have h := len_end e
    refine ev_succ ?_
    simp only [spec_l3Insert.l0.eq_2]
    exact ev_neg (by omega) (ev_pos (by omega) (ev_now (by simp [insertL])))
  | cons c suf ih =>
    intro pre out e ho
    have h := len_mid e
    have hc := hr c (by rw [e]; simp)
    refine ev_succ ?_
    simp only [spec_l3Insert.l0.eq_2, rd_mid' e]
    rw [wrap_snoc (pre := pre) (c := c) (by omega), wrap_of (x := c + 1) (by omega) (by omega)]
    refine ev_pos (by omega) (ev_pos (by omega) ?_)
    by_cases hq : c ≥ q
    · refine ev_pos hq (ev_pos (by omega) (ev_eq (ih _ _ (snoc_mid e) ?_) ?_))
      · simp [ho]
      · simp [insertL, hq]
    · refine ev_neg hq (ev_pos (by omega) (ev_eq (ih _ _ (snoc_mid e) ?_) ?_))
      · simp [ho]
      · simp [insertL, hq]
theorem spec_ins_ev (l : List Int) (q : Int) (hl : l.length ≤ 7) (hr : ∀ x ∈ l, 1 ≤ x ∧ x ≤ 100) : Ev (fun k => spec_l3Insert.f k l q) (insertL l q) := by
  unfold spec_l3Insert.f
  exact spec_ins_l l q hl hr l [] [] rfl rfl

/-! ### the order with a rank -/
theorem tdiv_nat (a b : Nat) : Int.tdiv (a : Int) (b : Int) = ((a / b : Nat) : Int) := (Int.ofNat_tdiv a b).symm
theorem tmod_nat (a b : Nat) : Int.tmod (a : Int) (b : Int) = ((a % b : Nat) : Int) := (Int.ofNat_tmod a b).symm
theorem rd_getD (l : List Int) (n : Nat) : rd l (n : Int) = l.getD n 0 := by unfold rd; simp
theorem impl_oat_l : ∀ (r : Nat) (left out : List Int) (k : Nat), left.length = r → r ≤ 7 → out.length + r ≤ 7 → k < fac r → Ev (fun n => impl_orderAt.l0 n (k : Int) left out) (out ++ atGo r left k) := by
  intro r
  induction r with
  | zero =>
    intro left out k hl h7 ho hk
    refine ev_succ ?_
    simp only [impl_orderAt.l0.eq_2]
    exact ev_neg (by omega) (ev_now (by simp [atGo]))
  | succ r ih =>
    intro left out k hl h7 ho hk
    have hp := fac_pos r
    have hf := fac_le (n := r) (by omega)
    have hq : k / fac r < r + 1 := by rw [fac] at hk; rw [Nat.div_lt_iff_lt_mul hp]; exact hk
    have hm : k % fac r < fac r := Nat.mod_lt _ hp
    obtain ⟨q, hqe⟩ : ∃ q, q = k / fac r := ⟨_, rfl⟩
    rw [← hqe] at hq
    refine ev_succ ?_
    simp only [impl_orderAt.l0.eq_2]
    rw [wrap_of (x := (left.length : Int) - 1) (by omega) (by omega), show (left.length : Int) - 1 = (r : Int) by omega]
    refine ev_pos (by omega) (ev_bind (fact_ev r (by omega)) ?_)
    rw [tdiv_nat, tmod_nat, ← hqe, wrap_of (x := ((q : Nat) : Int)) (by omega) (by omega)]
    refine ev_neg (by omega) (ev_pos (by omega) (ev_pos (by omega) (ev_pos (by omega) (ev_bind (delete_ev left q (by omega) (by omega)) ?_))))
    rw [rd_getD]
    refine ev_eq (ih _ _ _ (by rw [List.length_eraseIdx_of_lt (by omega)]; omega) (by omega) (by simp; omega) hm) ?_
    simp [atGo, hqe]
/-! ### all orders -/
theorem impl_orders_l (n : Nat) (hn : n ≤ 7) : ∀ (d j : Nat), j + d = fac n → Ev (fun k => impl_allOrders.l0 k (n : Int) ((List.range j).map (orderAtL n)) (fac n : Int) (j : Int)) (ordersL n) := by
  intro d
  have hf := fac_le hn
  induction d with
  | zero =>
    intro j e
    refine ev_succ ?_
    simp only [impl_allOrders.l0.eq_2]
    exact ev_neg (by omega) (ev_now (by unfold ordersL; rw [← e]; rfl))
  | succ d ih =>
    intro j e
    refine ev_succ ?_
    simp only [impl_allOrders.l0.eq_2]
    rw [wrap_of (x := (j : Int) + 1) (by omega) (by omega)]
    refine ev_pos (by omega) (ev_bind (a := orderAtL n j) ?_ (ev_pos (by simp; omega) ?_))
    · unfold impl_orderAt.f
      refine ev_bind (sorted_ev n hn) ?_
      exact impl_oat_l n (iota 1 n) [] j (iota_length _ _) (by omega) (by simp; omega) (by omega)
    · have h := ih (j + 1) (by omega)
      rw [List.range_succ, List.map_append] at h
      exact h
theorem impl_orders_ev (n : Nat) (hn : n ≤ 7) : Ev (fun k => impl_allOrders.f k (n : Int)) (ordersL n) := by
  unfold impl_allOrders.f
  exact ev_bind (fact_ev n hn) (impl_orders_l n hn (fac n) 0 (by omega))
/-! ### l3Avoiding, impl.avoiding -/
theorem avB_eq (rows : List (List Int)) (l : List Int) : avB l rows = avV rows l := rfl
theorem kids_range (rows : List (List Int)) {m : Nat} {x y : List Int} (h : y ∈ kids rows m x) : ∃ k, y = insertL x k := by
  obtain ⟨k, _, rfl⟩ := List.mem_map.1 (List.mem_filter.1 h).1
  exact ⟨k, rfl⟩
/-- the last numbers x9, .. of one order -/
def kidsFrom (rows : List (List Int)) (x : List Int) (a : Int) (d : Nat) : List (List Int) := ((iota a d).map (insertL x)).filter (avV rows)
theorem av_l2 (n : Int) (rows : List (List Int)) (hn : rows.length ≤ 1048576) (hr : ∀ xs ∈ rows, isOrd xs = true) (gen : List (List Int)) (i : Nat) (hi : i ≤ 6) (x : List Int) (hx : x.Perm (iota 1 i)) (j : Int) (hj0 : 0 ≤ j) (hj : j < (gen.length : Int)) (hrd : rd_L1 gen j = x) (R : List (List Int)) :
    ∀ (d : Nat) (a : Int) (acc : List (List Int)), a + d = (i : Int) + 2 → 1 ≤ a → acc.length + d ≤ 1000000 → Ev (fun k => spec_l3Avoiding.l1 k n rows gen (i : Int) (acc ++ kidsFrom rows x a d) (wrap64 (j + 1))) R → Ev (fun k => spec_l3Avoiding.l2 k n rows gen (i : Int) acc j a) R := by
  have hl : x.length = i := by rw [hx.length_eq, iota_length]
  intro d
  induction d with
  | zero =>
    intro a acc e ha hac hR
    refine ev_succ ?_
    simp only [spec_l3Avoiding.l2.eq_2]
    rw [wrap_of (x := (i : Int) + 1) (by omega) (by omega)]
    refine ev_neg (by omega) ?_
    simpa [kidsFrom, iota] using hR
  | succ d ih =>
    intro a acc e ha hac hR
    refine ev_succ ?_
    simp only [spec_l3Avoiding.l2.eq_2, hrd]
    rw [wrap_of (x := (i : Int) + 1) (by omega) (by omega), wrap_of (x := a + 1) (by omega) (by omega)]
    have hrange : ∀ y ∈ x, 1 ≤ y ∧ y ≤ 100 := fun y hy => by have := (iota_mem i 1 y).1 (hx.mem_iff.1 hy); omega
    refine ev_pos (by omega) (ev_pos hj0 (ev_pos hj (ev_bind (spec_ins_ev x a (by omega) hrange) (ev_bind (spec_avoids_ev (insertL x a) (by simp [insertL]; omega) rows hn hr) ?_))))
    have hk : kidsFrom rows x a (d + 1) = if avV rows (insertL x a) = true then insertL x a :: kidsFrom rows x (a + 1) d else kidsFrom rows x (a + 1) d := by
      simp only [kidsFrom, iota, List.map_cons, List.filter_cons]
    rw [avB_eq]
    rw [hk] at hR
    by_cases hv : avV rows (insertL x a) = true
    · rw [if_pos hv] at hR
      refine ev_pos hv (ev_pos (by omega) (ih (a + 1) _ (by omega) (by omega) (by simp; omega) ?_))
      simpa using hR
    · rw [if_neg hv] at hR
      exact ev_neg hv (ih (a + 1) acc (by omega) (by omega) (by omega) hR)
theorem av_l1 (n : Int) (rows : List (List Int)) (hn : rows.length ≤ 1048576) (hr : ∀ xs ∈ rows, isOrd xs = true) (gen : List (List Int)) (hg : gen.length ≤ 5040) (i : Nat) (hi : i ≤ 6) (hgen : ∀ x ∈ gen, x.Perm (iota 1 i)) (R : List (List Int)) :
    ∀ (suf pre : List (List Int)), gen = pre ++ suf → Ev (fun k => spec_l3Avoiding.l0 k n rows (gen.flatMap (kids rows (i + 1))) (wrap64 ((i : Int) + 1))) R → Ev (fun k => spec_l3Avoiding.l1 k n rows gen (i : Int) (pre.flatMap (kids rows (i + 1))) (pre.length : Int)) R := by
  intro suf
  induction suf with
  | nil =>
    intro pre e hR
    have h := len_end e
    refine ev_succ ?_
    simp only [spec_l3Avoiding.l1.eq_2]
    refine ev_neg (by omega) ?_
    rw [List.append_nil] at e
    rwa [e] at hR
  | cons c suf ih =>
    intro pre e hR
    have h := len_mid e
    have hb := flat_len rows (i + 1) pre
    have hb2 : pre.length * (i + 1) ≤ 5040 * 7 := Nat.mul_le_mul (by omega) (by omega)
    refine ev_succ ?_
    simp only [spec_l3Avoiding.l1.eq_2]
    refine ev_pos (by omega) (av_l2 n rows hn hr gen i hi c (hgen c (by rw [e]; simp)) (pre.length : Int) (by omega) (by omega) (rdL_mid e) R (i + 1) 1 _ (by omega) (by omega) (by omega) ?_)
    rw [wrap_snoc (pre := pre) (c := c) (by omega)]
    have := ih (pre ++ [c]) (snoc_mid e) hR
    rw [List.flatMap_append] at this
    have e2 : List.flatMap (kids rows (i + 1)) [c] = kidsFrom rows c 1 (i + 1) := by simp [kids, kidsFrom]
    rw [e2] at this
    exact this
theorem av_l0 (n : Nat) (h7 : n ≤ 7) (rows : List (List Int)) (hn : rows.length ≤ 1048576) (hr : ∀ xs ∈ rows, isOrd xs = true) : ∀ (d i : Nat), i + d = n → Ev (fun k => spec_l3Avoiding.l0 k (n : Int) rows (avG rows i) (i : Int)) (avG rows n) := by
  have hp1 : ∀ p ∈ rows, 1 ≤ p.length := fun p hp => (ord_len (hr p hp)).1
  intro d
  induction d with
  | zero =>
    intro i e
    obtain rfl : i = n := by omega
    refine ev_succ ?_
    simp only [spec_l3Avoiding.l0.eq_2]
    exact ev_neg (by omega) (ev_now rfl)
  | succ d ih =>
    intro i e
    have hl := avG_len rows i
    have hf := fac_le (n := i) (by omega)
    refine ev_succ ?_
    simp only [spec_l3Avoiding.l0.eq_2]
    refine ev_pos (by omega) ?_
    have := av_l1 (n : Int) rows hn hr (avG rows i) (by omega) i (by omega) (fun x hx => ((avG_mem rows hp1 i x).1 hx).1) (avG rows n) (avG rows i) [] rfl (by
      rw [wrap_of (by omega) (by omega)]
      exact ih (i + 1) (by omega))
    exact this
theorem spec_avoiding_ev (n : Nat) (h7 : n ≤ 7) (rows : List (List Int)) (hn : rows.length ≤ 1048576) (hr : ∀ xs ∈ rows, isOrd xs = true) : Ev (fun k => spec_l3Avoiding.f k (n : Int) rows) (avG rows n) := by
  unfold spec_l3Avoiding.f
  exact av_l0 n h7 rows hn hr n 0 (by omega)
theorem impl_avoiding_ev (n : Nat) (h1 : 1 ≤ n) (h7 : n ≤ 7) (rows : List (List Int)) (hn : rows.length ≤ 1048576) (hr : ∀ xs ∈ rows, isOrd xs = true) : Ev (fun k => impl_avoiding.f k (n : Int) rows) ((ordersL n).filter (avV rows)) := by
  unfold impl_avoiding.f
  have hf := fac_le h7
  have hp := fac_pos n
  have hlen := ordersL_len n
  refine ev_bind (impl_orders_ev n h7) (ev_pos ⟨by omega, by omega⟩ ?_)
  exact keepM_ev (g := fun _ c => impl_avoids.f c rows) (ordersL n) (fun c hc => impl_avoids_ev c (by have := ordersL_mem hc; omega) rows hn hr)

theorem befB_asymm : ∀ (a b : List Int), befB a b = true → befB b a = false := by
  intro a
  induction a with
  | nil => intro b h; cases b <;> simp [befB] at h ⊢
  | cons c s ih =>
    intro b h
    cases b with
    | nil => simp [befB]
    | cons d t =>
      simp only [befB] at h ⊢
      by_cases e : c = d
      · subst e
        rw [if_pos rfl] at h ⊢
        exact ih t h
      · rw [if_neg e] at h
        rw [if_neg (fun e2 => e e2.symm)]
        have := of_decide_eq_true h
        exact decide_eq_false (by omega)
theorem before_l (a b : List Int) (ha : a.length ≤ 100) : ∀ (s t pre q : List Int), a = pre ++ s → b = q ++ t → pre.length = q.length → s.length = t.length → Ev (fun k => spec_l2Before.l0 k a b (pre.length : Int)) (befB s t) := by
  intro s
  induction s with
  | nil =>
    intro t pre q e e' h1 h2
    have h := len_end e
    refine ev_succ ?_
    simp only [spec_l2Before.l0.eq_2]
    refine ev_neg (by omega) ?_
    exact ev_now (by cases t <;> simp [befB])
  | cons c s ih =>
    intro t pre q e e' h1 h2
    cases t with
    | nil => simp at h2
    | cons d t =>
    have h := len_mid e
    have h' := len_mid e'
    refine ev_succ ?_
    have r1 := rd_mid' e
    have r2 := rd_mid' e'
    rw [← h1] at r2
    simp only [spec_l2Before.l0.eq_2, r1, r2]
    refine ev_pos (by omega) (ev_pos (by omega) (ev_pos (by omega) ?_))
    by_cases hc : c = d
    · refine ev_pos hc ?_
      rw [wrap_snoc (pre := pre) (c := c) (by omega)]
      refine ev_eq (ih t (pre ++ [c]) (q ++ [d]) (snoc_mid e) (snoc_mid e') (by simp [h1]) (by simpa using h2)) ?_
      simp [befB, hc]
    · refine ev_neg hc (ev_now ?_)
      simp [befB, hc]
theorem before_ev (a b : List Int) (ha : a.length ≤ 100) (h : a.length = b.length) : Ev (fun k => spec_l2Before.f k a b) (befB a b) := by
  unfold spec_l2Before.f
  exact before_l a b ha a b [] [] rfl rfl rfl h
theorem first_l (all : List (List Int)) (h0 : List Int) (hm : h0 ∈ all) (hf : ∀ c ∈ all, c ≠ h0 → befB h0 c = true) (hl : ∀ c ∈ all, c.length = h0.length) (h7 : h0.length ≤ 7) (ha : all.length ≤ 10000) :
    ∀ (suf pre : List (List Int)) (best : List Int), all = pre ++ suf → best ∈ pre → (h0 ∈ pre → best = h0) → Ev (fun k => spec_FirstAvoiding.l0 k all best (pre.length : Int)) (h0, true) := by
  intro suf
  induction suf with
  | nil =>
    intro pre best e hb hh
    have h := len_end e
    refine ev_succ ?_
    simp only [spec_FirstAvoiding.l0.eq_2]
    refine ev_neg (by omega) ?_
    rw [List.append_nil] at e
    exact ev_now (by rw [hh (e ▸ hm)])
  | cons c suf ih =>
    intro pre best e hb hh
    have h := len_mid e
    have hrd : rd_L1 all (pre.length : Int) = c := by rw [e]; simp [rd_L1]
    have hc : c ∈ all := by rw [e]; simp
    have hbm : best ∈ all := by rw [e]; exact List.mem_append_left _ hb
    have l1 := hl c hc
    have l2 := hl best hbm
    refine ev_succ ?_
    simp only [spec_FirstAvoiding.l0.eq_2, hrd]
    rw [wrap_snoc (pre := pre) (c := c) (by omega)]
    refine ev_pos (by omega) (ev_pos (by omega) (ev_bind (before_ev c best (by omega) (by omega)) ?_))
    by_cases hv : befB c best = true
    · refine ev_pos hv (ih (pre ++ [c]) c (snoc_mid e) (by simp) (fun hp => ?_))
      by_cases ec : c = h0
      · exact ec
      · rcases List.mem_append.1 hp with hp | hp
        · rw [hh hp] at hv
          rw [befB_asymm _ _ (hf c hc ec)] at hv
          cases hv
        · exact (List.mem_singleton.1 hp).symm
    · refine ev_neg hv (ih (pre ++ [c]) best (snoc_mid e) (List.mem_append_left _ hb) (fun hp => ?_))
      rcases List.mem_append.1 hp with hp | hp
      · exact hh hp
      · have ec := List.mem_singleton.1 hp
        by_cases eb : best = h0
        · exact eb
        · exact absurd (ec ▸ hf best hbm eb) hv
def faR (a : Int) (rows : List (List Int)) : List Int × Bool := if (1 ≤ a ∧ a ≤ 7) ∧ arePats rows = true then (match (ordersL a.toNat).filter (avV rows) with | [] => ([], false) | c :: _ => (c, true)) else ([], false)
theorem faR_len (a : Int) (rows : List (List Int)) : (faR a rows).1.length ≤ 1048576 := by
  unfold faR
  split
  · rename_i h
    split
    · simp
    · rename_i c t e
      have hc : c ∈ (ordersL a.toNat).filter (avV rows) := by rw [e]; simp
      have := ordersL_mem (List.mem_filter.1 hc).1
      simp only; omega
  · simp
theorem spec_ev (a : Int) (rows : List (List Int)) (hn : rows.length ≤ 1048576) (hr : ∀ xs ∈ rows, xs.length ≤ 1048576) : Ev (fun k => spec_FirstAvoiding.f k a rows) (faR a rows) := by
  unfold spec_FirstAvoiding.f
  have hs : Ev (fun _ => spec_l3Size.f a) (decide (1 ≤ a) && decide (a ≤ 7)) := by
    unfold spec_l3Size.f
    exact ev_bind (in_ev a 1 7) (ev_now rfl)
  refine ev_bind hs ?_
  by_cases h : 1 ≤ a ∧ a ≤ 7
  · refine ev_pos (by simp; omega) (ev_bind (spec_patterns_ev rows hn hr) ?_)
    by_cases h2 : arePats rows = true
    · obtain ⟨n, rfl⟩ : ∃ n : Nat, a = (n : Int) := ⟨a.toNat, by omega⟩
      have hp1 : ∀ p ∈ rows, 1 ≤ p.length := fun p hp => (ord_len ((pats_all h2).2 p hp)).1
      have hpm := av_perm rows hp1 (n := n) (by omega) (by omega)
      have hlen := avG_len rows n
      have hfac := fac_le (n := n) (by omega)
      refine ev_succ ?_
      simp only [spec_FirstAvoiding.j0.eq_2]
      refine ev_neg (by simp [h2]) (ev_bind (spec_avoiding_ev n (by omega) rows hn (pats_all h2).2) ?_)
      have hR : faR (n : Int) rows = (match (ordersL n).filter (avV rows) with | [] => ([], false) | c :: _ => (c, true)) := by
        unfold faR; rw [if_pos ⟨h, h2⟩]; rfl
      rw [hR]
      cases hL : (ordersL n).filter (avV rows) with
      | nil =>
        rw [hL] at hpm
        have e := hpm.symm.eq_nil
        rw [e]
        exact ev_pos (by simp) (ev_now rfl)
      | cons c t =>
        rw [hL] at hpm
        have hmem : ∀ x, x ∈ avG rows n ↔ x ∈ c :: t := fun x => hpm.symm.mem_iff
        have hbef : (c :: t).Pairwise (fun a b => befB a b = true) := hL ▸ (ordersL_bef n).filter _
        rw [List.pairwise_cons] at hbef
        have hlx : ∀ x ∈ c :: t, x.length = n := fun x hx => ordersL_mem (List.mem_filter.1 (hL ▸ hx)).1
        have hlc := hlx c (by simp)
        cases hA : avG rows n with
        | nil => have := (hmem c).2 (by simp); rw [hA] at this; cases this
        | cons d u =>
          refine ev_neg (by simp; omega) (ev_pos (by simp) ?_)
          rw [hA] at hmem hlen
          refine first_l (d :: u) c ((hmem c).2 (by simp)) (fun x hx hne => ?_) (fun x hx => by rw [hlx x ((hmem x).1 hx), hlc]) (by omega) (by omega) u [d] d rfl (by simp) (fun hp => (List.mem_singleton.1 hp).symm)
          rcases List.mem_cons.1 ((hmem x).1 hx) with e | e
          · exact absurd e hne
          · exact hbef.1 x e
    · refine ev_succ ?_
      simp only [spec_FirstAvoiding.j0.eq_2]
      exact ev_pos (by simpa using h2) (ev_now (by unfold faR; rw [if_neg (fun hh => h2 hh.2)]))
  · refine ev_neg ?_ (ev_succ ?_)
    · simp only [Bool.and_eq_true, decide_eq_true_eq]; omega
    · simp only [spec_FirstAvoiding.j0.eq_2]
      exact ev_pos trivial (ev_now (by unfold faR; rw [if_neg (fun hh => h hh.1)]))
theorem impl_ev (a : Int) (rows : List (List Int)) (hn : rows.length ≤ 1048576) (hr : ∀ xs ∈ rows, xs.length ≤ 1048576) : Ev (fun k => impl_FirstAvoiding.f k a rows) (faR a rows) := by
  unfold impl_FirstAvoiding.f
  refine ev_bind (isSize_ev a) ?_
  by_cases h : 1 ≤ a ∧ a ≤ 7
  · refine ev_pos (by simp; omega) (ev_bind (impl_patterns_ev rows hn hr) ?_)
    by_cases h2 : arePats rows = true
    · obtain ⟨n, rfl⟩ : ∃ n : Nat, a = (n : Int) := ⟨a.toNat, by omega⟩
      refine ev_succ ?_
      simp only [impl_FirstAvoiding.j0.eq_2]
      refine ev_neg (by simp [h2]) (ev_bind (impl_avoiding_ev n (by omega) (by omega) rows hn (pats_all h2).2) ?_)
      have hR : faR (n : Int) rows = (match (ordersL n).filter (avV rows) with | [] => ([], false) | c :: _ => (c, true)) := by
        unfold faR; rw [if_pos ⟨h, h2⟩]; rfl
      rw [hR]
      cases hL : (ordersL n).filter (avV rows) with
      | nil => exact ev_pos (by simp) (ev_now rfl)
      | cons c t => exact ev_neg (by simp; omega) (ev_pos (by simp) (ev_now (by simp [rd_L1])))
    · refine ev_succ ?_
      simp only [impl_FirstAvoiding.j0.eq_2]
      exact ev_pos (by simpa using h2) (ev_now (by unfold faR; rw [if_neg (fun hh => h2 hh.2)]))
  · refine ev_neg ?_ (ev_succ ?_)
    · simp only [Bool.and_eq_true, decide_eq_true_eq]; omega
    · simp only [impl_FirstAvoiding.j0.eq_2]
      exact ev_pos trivial (ev_now (by unfold faR; rw [if_neg (fun hh => h hh.1)]))
theorem FnExactFirstAvoiding : laws_FnExactFirstAvoiding.Pure := by
  intro a rows _ hmr hrr
  obtain ⟨v, ⟨K1, hv⟩, hq⟩ := szIntSS_ev rows hmr (fun xs hx => (hrr xs hx).1)
  by_cases h2 : v < 0
  · exact ⟨K1, v, hv K1 (Nat.le_refl _), .inl h2⟩
  obtain ⟨hn, hr⟩ := hq.resolve_left h2
  have hr8 : ∀ xs ∈ rows, xs.length * 8 ≤ 140737488351232 := fun xs hx => by have := hr xs hx; omega
  obtain ⟨K2, hs⟩ := spec_ev a rows hn hr
  obtain ⟨K3, hi⟩ := impl_ev a rows hn hr
  obtain ⟨K4, ht⟩ := toIntSS_ev rows hn hr8
  obtain ⟨K5, he⟩ := eqIntSS_ev rows hn hr8
  exact ⟨K1 + K2 + K3 + K4 + K5, v, hv _ (by omega), .inr ⟨faR a rows, hs _ (by omega), hi _ (by omega), faR_len a rows, hn, hr, ht _ (by omega), he _ (by omega)⟩⟩
end Go.Proofs.Ytjaplmgbhmgpiaa.Pure
