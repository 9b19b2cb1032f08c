/- The pure statement of FnExactCountInversions: program and reference count the same pairs. No condition. -/
import Derived.Test.YtmkgigagfhhgcaaMFnExactCountInversionsx3
import Derived.Test.YtmkgigagfhhgcaaBase
import Derived.Test.YtmkgigagfhhgcaaBaseW
import Derived.Test.YtmkgigagfhhgcaaBaseR
namespace Go.Proofs.Ytmkgigagfhhgcaa.Pure
open Go Go.RowKit Go.Proofs.Ytmkgigagfhhgcaa.MFnExactCountInversions Go.Proofs.YtmkgigagfhhgcaaW.PrintWords Go.Proofs.Ytmkgigagfhhgcaa.Base
set_option linter.unusedVariables false
set_option linter.unusedSimpArgs false
/-! ### laws.toIntS, laws.eqIntS -/
theorem toInt_l (l : List Int) (hl : l.length * 8 ≤ 140737488351232) : ∀ (suf pre : List Int), l = pre ++ suf → Ev (fun k => laws_toIntS.l0 k l (pre ++ List.replicate suf.length 0) (pre.length : Int)) l := by
  intro suf
  induction suf with
  | nil =>
    intro pre e
    have h := len_end e
    refine ev_succ ?_
    simp only [laws_toIntS.l0.eq_2]
    refine ev_neg (by omega) ?_
    exact ev_now (by rw [e]; simp)
  | cons c suf ih =>
    intro pre e
    have h := len_mid e
    refine ev_succ ?_
    simp only [laws_toIntS.l0.eq_2, rd_mid' e]
    refine ev_pos (by omega) (ev_pos (by omega) (ev_pos (by simp; omega) ?_))
    rw [wrap_snoc (pre := pre) (c := c) (by omega)]
    have e2 : (pre ++ List.replicate (c :: suf).length 0).set ((pre.length : Int)).toNat c = (pre ++ [c]) ++ List.replicate suf.length 0 := by
      simp [List.replicate_succ]
    rw [e2]
    exact ih _ (snoc_mid e)
theorem toInt_ev (l : List Int) (hl : l.length * 8 ≤ 140737488351232) : Ev (fun k => laws_toIntS.f k l) l := by
  unfold laws_toIntS.f
  refine ev_pos (by omega) (ev_pos (by omega) ?_)
  have := toInt_l l hl l [] rfl
  simpa using this

theorem eqInt_l (a b : List Int) (hl : a.length * 8 ≤ 140737488351232) : ∀ (s t pre q : List Int), a = pre ++ s → b = q ++ t → pre.length = q.length → s.length = t.length → Ev (fun k => laws_eqIntS.l0 k a b (pre.length : Int)) (decide (s = t)) := by
  intro s
  induction s with
  | nil =>
    intro t pre q e e' h1 h2
    have h := len_end e
    obtain rfl : t = [] := by cases t with
      | nil => rfl
      | cons _ _ => simp at h2
    refine ev_succ ?_
    simp only [laws_eqIntS.l0.eq_2]
    refine ev_neg (by omega) ?_
    exact ev_now (by simp)
  | cons c s ih =>
    intro t pre q e e' h1 h2
    cases t with
    | nil => simp at h2
    | cons d t =>
    have h := len_mid e
    have h' := len_mid e'
    refine ev_succ ?_
    have r1 := rd_mid' e
    have r2 := rd_mid' e'
    rw [← h1] at r2
    simp only [laws_eqIntS.l0.eq_2, r1, r2]
    refine ev_pos (by omega) (ev_pos (by omega) (ev_pos (by omega) ?_))
    by_cases hc : c = d
    · refine ev_pos hc ?_
      rw [wrap_snoc (pre := pre) (c := c) (by omega)]
      refine ev_eq (ih t (pre ++ [c]) (q ++ [d]) (snoc_mid e) (snoc_mid e') (by simp [h1]) (by simpa using h2)) ?_
      simp [hc]
    · refine ev_neg hc (ev_now ?_)
      simp [hc]
theorem eqInt_ev (a b : List Int) (hl : a.length * 8 ≤ 140737488351232) : Ev (fun k => laws_eqIntS.f k a b) (decide (a = b)) := by
  unfold laws_eqIntS.f
  by_cases h : a.length = b.length
  · refine ev_pos (by omega) ?_
    exact eqInt_l a b hl a b [] [] rfl rfl rfl h
  · refine ev_neg (by omega) (ev_now ?_)
    symm
    exact decide_eq_false (fun e => h (by rw [e]))

/-! ### Is it an order? -/
theorem in_ev (a b c : Int) : Ev (fun _ => spec_l1In.f a b c) (decide (b ≤ a) && decide (a ≤ c)) := by
  unfold spec_l1In.f
  by_cases h : a ≥ b
  · refine ev_pos h (ev_now ?_)
    have : decide (b ≤ a) = true := decide_eq_true h
    rw [this]; rfl
  · refine ev_neg h (ev_now ?_)
    have : decide (b ≤ a) = false := decide_eq_false (by omega)
    rw [this]; rfl

theorem has_l (l : List Int) (x : Int) (hl : l.length ≤ 140737488351232) : ∀ (suf pre : List Int), l = pre ++ suf → Ev (fun k => spec_l1Has.l0 k l x (pre.length : Int)) (decide (x ∈ suf)) := by
  intro suf
  induction suf with
  | nil =>
    intro pre e
    have h := len_end e
    refine ev_succ ?_
    simp only [spec_l1Has.l0.eq_2]
    refine ev_neg (by omega) ?_
    exact ev_now (by simp)
  | cons c suf ih =>
    intro pre e
    have h := len_mid e
    refine ev_succ ?_
    simp only [spec_l1Has.l0.eq_2, rd_mid' e]
    refine ev_pos (by omega) (ev_pos (by omega) ?_)
    by_cases hc : c = x
    · exact ev_pos hc (ev_now (by simp [hc]))
    · refine ev_neg hc ?_
      rw [wrap_snoc (pre := pre) (c := c) (by omega)]
      refine ev_eq (ih _ (snoc_mid e)) ?_
      have : x ≠ c := fun h => hc h.symm
      simp [this]
theorem has_ev (l : List Int) (x : Int) (hl : l.length ≤ 140737488351232) : Ev (fun k => spec_l1Has.f k l x) (decide (x ∈ l)) := by
  unfold spec_l1Has.f
  exact has_l l x hl l [] rfl
theorem idx_l (l : List Int) (x : Int) (hl : l.length ≤ 140737488351232) : ∀ (suf pre : List Int), l = pre ++ suf → Ev (fun k => slices_Index_int_int.l0 k l x (l.length : Int) (pre.length : Int)) (if x ∈ suf then ((pre.length + suf.idxOf x : Nat) : Int) else -1) := by
  intro suf
  induction suf with
  | nil =>
    intro pre e
    have h := len_end e
    refine ev_succ ?_
    simp only [slices_Index_int_int.l0.eq_2]
    refine ev_neg (by omega) ?_
    exact ev_now (by simp)
  | cons c suf ih =>
    intro pre e
    have h := len_mid e
    refine ev_succ ?_
    simp only [slices_Index_int_int.l0.eq_2, rd_mid' e]
    refine ev_pos (by omega) (ev_pos (by omega) (ev_pos (by omega) ?_))
    by_cases hc : x = c
    · exact ev_pos hc (ev_now (by simp [hc]))
    · refine ev_neg hc ?_
      rw [wrap_snoc (pre := pre) (c := c) (by omega)]
      refine ev_eq (ih _ (snoc_mid e)) ?_
      have hc' : ¬ c = x := fun h => hc h.symm
      have hb : (c == x) = false := by simpa using hc'
      simp only [List.mem_cons, hc, false_or, List.idxOf_cons, hb, cond_false]
      by_cases hm : x ∈ suf
      · rw [if_pos hm, if_pos hm]; simp; omega
      · rw [if_neg hm, if_neg hm]
theorem idx_ev (l : List Int) (x : Int) (hl : l.length ≤ 140737488351232) : Ev (fun k => slices_Index_int_int.f k l x) (if x ∈ l then ((l.idxOf x : Nat) : Int) else -1) := by
  unfold slices_Index_int_int.f
  simpa using idx_l l x hl l [] rfl
theorem contains_ev (l : List Int) (x : Int) (hl : l.length ≤ 140737488351232) : Ev (fun k => slices_Contains_int_int.f k l x) (decide (x ∈ l)) := by
  unfold slices_Contains_int_int.f
  refine ev_bind (idx_ev l x hl) (ev_now ?_)
  by_cases h : x ∈ l
  · simp [h]
  · simp [h]

theorem spec_order_l (l : List Int) (hl : l.length ≤ 140737488351232) : ∀ (suf pre : List Int), l = pre ++ suf → Ev (fun k => spec_l2Order.l0 k l (pre.length : Int)) (ordGo (l.length : Int) pre suf) := by
  intro suf
  induction suf with
  | nil =>
    intro pre e
    have h := len_end e
    refine ev_succ ?_
    simp only [spec_l2Order.l0.eq_2]
    refine ev_neg (by omega) ?_
    exact ev_now rfl
  | cons c suf ih =>
    intro pre e
    have h := len_mid e
    refine ev_succ ?_
    simp only [spec_l2Order.l0.eq_2, rd_mid' e, take_mid e]
    refine ev_pos (by omega) (ev_pos (by omega) (ev_bind (in_ev _ _ _) ?_))
    by_cases hr : 1 ≤ c ∧ c ≤ (l.length : Int)
    · refine ev_pos (by simp [hr.1, hr.2]) (ev_pos (by omega) (ev_bind (has_ev pre c (by omega)) ?_))
      by_cases hc : c ∈ pre
      · exact ev_pos (by simp [hc]) (ev_now (by simp [ordGo, hc]))
      · refine ev_neg (by simp [hc]) ?_
        rw [wrap_snoc (pre := pre) (c := c) (by omega)]
        refine ev_eq (ih _ (snoc_mid e)) ?_
        simp [ordGo, hr.1, hr.2, hc]
    · refine ev_neg (by simp; omega) (ev_now ?_)
      simp only [ordGo]
      rw [if_neg (fun h => hr ⟨h.1, h.2.1⟩)]
theorem spec_order_ev (l : List Int) (hl : l.length ≤ 140737488351232) : Ev (fun k => spec_l2Order.f k l) (isOrd l) := by
  unfold spec_l2Order.f
  refine ev_bind (in_ev _ _ _) ?_
  unfold isOrd
  by_cases h : 1 ≤ l.length ∧ l.length ≤ 7
  · refine ev_pos (by simp; omega) ?_
    rw [if_pos h]
    exact spec_order_l l hl l [] rfl
  · refine ev_neg (by simp; omega) (ev_now ?_)
    rw [if_neg h]
theorem impl_order_l (l : List Int) (hl : l.length ≤ 140737488351232) : ∀ (suf pre : List Int), l = pre ++ suf → Ev (fun k => impl_isOrder.l0 k l l (l.length : Int) (pre.length : Int)) (ordGo (l.length : Int) pre suf) := by
  intro suf
  induction suf with
  | nil =>
    intro pre e
    have h := len_end e
    refine ev_succ ?_
    simp only [impl_isOrder.l0.eq_2]
    refine ev_neg (by omega) ?_
    exact ev_now rfl
  | cons c suf ih =>
    intro pre e
    have h := len_mid e
    refine ev_succ ?_
    simp only [impl_isOrder.l0.eq_2, rd_mid' e, take_mid e]
    refine ev_pos (by omega) (ev_pos (by omega) (ev_pos (by omega) ?_))
    by_cases h1 : c < 1
    · exact ev_pos h1 (ev_now (by simp only [ordGo]; rw [if_neg (fun h => by omega)]))
    refine ev_neg h1 ?_
    by_cases h2 : c > (l.length : Int)
    · exact ev_pos h2 (ev_now (by simp only [ordGo]; rw [if_neg (fun h => by omega)]))
    refine ev_neg h2 (ev_pos (by omega) (ev_bind (contains_ev pre c (by omega)) ?_))
    by_cases hc : c ∈ pre
    · exact ev_pos (by simp [hc]) (ev_now (by simp [ordGo, hc]))
    · refine ev_neg (by simp [hc]) ?_
      rw [wrap_snoc (pre := pre) (c := c) (by omega)]
      refine ev_eq (ih _ (snoc_mid e)) ?_
      simp only [ordGo]
      rw [if_pos ⟨by omega, by omega, hc⟩]
theorem impl_order_ev (l : List Int) (hl : l.length ≤ 140737488351232) : Ev (fun k => impl_isOrder.f k l) (isOrd l) := by
  have key : ∀ b : Bool, Ev (fun k => impl_isOrder.j0 k l b) (if b = true then false else ordGo (l.length : Int) [] l) := by
    intro b
    refine ev_succ ?_
    simp only [impl_isOrder.j0.eq_2]
    cases b with
    | true => exact ev_pos rfl (ev_now rfl)
    | false => exact ev_neg (by simp) (impl_order_l l hl l [] rfl)
  unfold impl_isOrder.f isOrd
  by_cases h1 : (l.length : Int) < 1
  · refine ev_pos h1 (ev_eq (key true) ?_)
    rw [if_pos rfl, if_neg (fun h => by omega)]
  · refine ev_neg h1 (ev_eq (key _) ?_)
    by_cases h2 : (l.length : Int) > 7
    · rw [if_neg (c := 1 ≤ l.length ∧ l.length ≤ 7) (fun h => by omega), if_pos (decide_eq_true h2)]
    · rw [if_pos (c := 1 ≤ l.length ∧ l.length ≤ 7) ⟨by omega, by omega⟩, if_neg (by simp; omega)]

/-! ### CountInversions -/
theorem spec_invs_in (l : List Int) (hl : l.length ≤ 7) (c : Int) (i : Int) (hi : 0 ≤ i ∧ i < l.length) (hx : rd l i = c) (R : Int × Bool) : ∀ (suf pre : List Int) (a : Int), l = pre ++ suf → 0 ≤ a → a + suf.length ≤ 1000 → Ev (fun k => spec_CountInversions.l0 k l (a + suf.countP (fun y => decide (c > y))) (wrap64 (i + 1))) R → Ev (fun k => spec_CountInversions.l1 k l a i (pre.length : Int)) R := by
  intro suf
  induction suf with
  | nil =>
    intro pre a e h0 h1 hR
    have h := len_end e
    refine ev_succ ?_
    simp only [spec_CountInversions.l1.eq_2]
    refine ev_neg (by omega) ?_
    simpa using hR
  | cons y suf ih =>
    intro pre a e h0 h1 hR
    have h := len_mid e
    simp only [List.length_cons] at h1
    refine ev_succ ?_
    simp only [spec_CountInversions.l1.eq_2, rd_mid' e, hx]
    rw [wrap_snoc (pre := pre) (c := y) (by omega)]
    refine ev_pos (by omega) (ev_pos (by omega) (ev_pos (by omega) (ev_pos (by omega) ?_)))
    rw [List.countP_cons] at hR
    by_cases hc : c > y
    · refine ev_pos hc ?_
      rw [wrap_of (x := a + 1) (by omega) (by omega)]
      refine ih _ _ (snoc_mid e) (by omega) (by omega) ?_
      rw [if_pos (decide_eq_true hc)] at hR
      rwa [show a + 1 + ((suf.countP (fun y => decide (c > y)) : Nat) : Int) = a + ((suf.countP (fun y => decide (c > y)) + 1 : Nat) : Int) by omega]
    · refine ev_neg hc (ih _ _ (snoc_mid e) (by omega) (by omega) ?_)
      rw [if_neg (by simpa using hc)] at hR
      simpa using hR
theorem spec_invs_l (l : List Int) (hl : l.length ≤ 7) : ∀ (suf pre : List Int) (a : Int), l = pre ++ suf → 0 ≤ a → a + 7 * suf.length ≤ 900 → Ev (fun k => spec_CountInversions.l0 k l a (pre.length : Int)) (a + invC suf, true) := by
  intro suf
  induction suf with
  | nil =>
    intro pre a e h0 h1
    have h := len_end e
    refine ev_succ ?_
    simp only [spec_CountInversions.l0.eq_2]
    exact ev_neg (by omega) (ev_now (by simp [invC]))
  | cons c suf ih =>
    intro pre a e h0 h1
    have h := len_mid e
    simp only [List.length_cons] at h1
    refine ev_succ ?_
    simp only [spec_CountInversions.l0.eq_2]
    rw [wrap_snoc (pre := pre) (c := c) (by omega)]
    have hcnt : suf.countP (fun y => decide (c > y)) ≤ suf.length := List.countP_le_length
    refine ev_pos (by omega) (spec_invs_in l hl c _ ⟨by omega, by omega⟩ (rd_mid' e) _ suf (pre ++ [c]) a (snoc_mid e) h0 (by omega) ?_)
    rw [wrap_snoc (pre := pre) (c := c) (by omega)]
    refine ev_eq (ih _ _ (snoc_mid e) (by omega) (by omega)) ?_
    simp [invC]; omega
theorem spec_invs_ev (l : List Int) (hl : l.length ≤ 140737488351232) : Ev (fun k => spec_CountInversions.f k l) (invcR l) := by
  unfold spec_CountInversions.f invcR
  by_cases ho : isOrd l = true
  · rw [onOrd_pos ho]
    have h7 := ord_len ho
    refine ev_bind (spec_order_ev l hl) (ev_pos ho ?_)
    have := spec_invs_l l h7.2 l [] 0 rfl (by omega) (by omega)
    simpa using this
  · rw [onOrd_neg ho]; exact ev_bind (spec_order_ev l hl) (ev_neg ho (ev_now rfl))
theorem impl_invs_in (l y : List Int) (c : Int) (i : Int) (R : Int) : ∀ (suf pre : List Int) (a : Int), y = pre ++ suf → y.length ≤ 7 → 0 ≤ a → a + suf.length ≤ 1000 → Ev (fun k => impl_inversions.l0 k l (a + suf.countP (fun y => decide (y > c))) l (l.length : Int) (wrap64 (i + 1))) R → Ev (fun k => impl_inversions.l1 k l a c l (l.length : Int) i y (y.length : Int) (pre.length : Int)) R := by
  intro suf
  induction suf with
  | nil =>
    intro pre a e hy h0 h1 hR
    have h := len_end e
    refine ev_succ ?_
    simp only [impl_inversions.l1.eq_2]
    refine ev_neg (by omega) ?_
    simpa using hR
  | cons x suf ih =>
    intro pre a e hy h0 h1 hR
    have h := len_mid e
    simp only [List.length_cons] at h1
    refine ev_succ ?_
    simp only [impl_inversions.l1.eq_2, rd_mid' e]
    rw [wrap_snoc (pre := pre) (c := x) (by omega)]
    refine ev_pos (by omega) (ev_pos (by omega) (ev_pos (by omega) ?_))
    rw [List.countP_cons] at hR
    by_cases hc : x > c
    · refine ev_pos hc ?_
      rw [wrap_of (x := a + 1) (by omega) (by omega)]
      refine ih _ _ (snoc_mid e) hy (by omega) (by omega) ?_
      rw [if_pos (decide_eq_true hc)] at hR
      rwa [show a + 1 + ((suf.countP (fun y => decide (y > c)) : Nat) : Int) = a + ((suf.countP (fun y => decide (y > c)) + 1 : Nat) : Int) by omega]
    · refine ev_neg hc (ih _ _ (snoc_mid e) hy (by omega) (by omega) ?_)
      rw [if_neg (by simpa using hc)] at hR
      simpa using hR
theorem impl_invs_l (l : List Int) (hl : l.length ≤ 7) : ∀ (suf pre : List Int), l = pre ++ suf → Ev (fun k => impl_inversions.l0 k l ((invC pre : Nat) : Int) l (l.length : Int) (pre.length : Int)) ((invC l : Nat) : Int) := by
  intro suf
  induction suf with
  | nil =>
    intro pre e
    have h := len_end e
    refine ev_succ ?_
    simp only [impl_inversions.l0.eq_2]
    exact ev_neg (by omega) (ev_now (by rw [e]; simp))
  | cons c suf ih =>
    intro pre e
    have h := len_mid e
    have hb := invC_le pre
    have hb2 : pre.length * pre.length ≤ 7 * 7 := Nat.mul_le_mul (by omega) (by omega)
    refine ev_succ ?_
    simp only [impl_inversions.l0.eq_2, rd_mid' e, take_mid e]
    refine ev_pos (by omega) (ev_pos (by omega) (ev_pos (by omega) (ev_pos (by omega) (ev_let ?_))))
    refine impl_invs_in l pre c _ _ pre [] _ rfl (by omega) (by omega) (by omega) ?_
    rw [wrap_snoc (pre := pre) (c := c) (by omega), show ((invC pre : Nat) : Int) + ((pre.countP (fun y => decide (y > c)) : Nat) : Int) = ((invC (pre ++ [c]) : Nat) : Int) by rw [invC_snoc]; omega]
    exact ih _ (snoc_mid e)
theorem impl_invs_ev (l : List Int) (hl : l.length ≤ 140737488351232) : Ev (fun k => impl_CountInversions.f k l) (invcR l) := by
  unfold impl_CountInversions.f invcR
  by_cases ho : isOrd l = true
  · rw [onOrd_pos ho]
    have h7 := ord_len ho
    refine ev_bind (impl_order_ev l hl) (ev_pos ho (ev_bind (a := ((invC l : Nat) : Int)) ?_ (ev_now rfl)))
    unfold impl_inversions.f
    exact impl_invs_l l h7.2 l [] rfl
  · rw [onOrd_neg ho]; exact ev_bind (impl_order_ev l hl) (ev_neg ho (ev_now rfl))

theorem FnExactCountInversions : laws_FnExactCountInversions.Pure := by
  intro l hm hl hw
  apply Ev.rounds (r := true)
  have hl' := len_max hl
  unfold laws_FnExactCountInversions.f
  by_cases h1 : (l.length : Int) > 1048576
  · exact ev_pos h1 (ev_now rfl)
  refine ev_neg h1 (ev_bind (toInt_ev l hl) (ev_bind (spec_invs_ev l hl') (ev_bind (toInt_ev l hl) (ev_bind (impl_invs_ev l hl') (ev_pos rfl ?_)))))
  refine ev_succ ?_
  simp only [laws_FnExactCountInversions.j0.eq_2]
  exact ev_neg (by simp) (ev_bind (toInt_ev l hl) (ev_bind (eqInt_ev l l hl) (ev_pos (by simp) (ev_now rfl))))
end Go.Proofs.Ytmkgigagfhhgcaa.Pure
