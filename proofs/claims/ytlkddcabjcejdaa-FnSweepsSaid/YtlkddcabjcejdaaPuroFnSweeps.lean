/- The pure statement of FnSweeps. No condition. -/
import Derived.Test.YtlkddcabjcejdaaMFnSweepsx12
import Derived.Test.YtlkddcabjcejdaaBase
import Derived.Test.YtlkddcabjcejdaaBaseP
import Derived.Test.YtlkddcabjcejdaaBaseW
import Derived.Test.YtlkddcabjcejdaaBaseR
import Derived.Test.YtlkddcabjcejdaaBaseO
import Derived.Test.YtlkddcabjcejdaaBaseA
import Derived.Test.YtlkddcabjcejdaaBaseF
import Derived.Test.YtlkddcabjcejdaaBaseD
import Derived.Test.YtlkddcabjcejdaaBaseG
namespace Go.Proofs.Ytlkddcabjcejdaa.Pure
open Go Go.RowKit Go.Proofs.Ytlkddcabjcejdaa.MFnSweeps Go.Proofs.YtlkddcabjcejdaaW.PrintWords Go.Proofs.Ytlkddcabjcejdaa.Base
set_option linter.unusedVariables false
set_option linter.unusedSimpArgs false
/-! ### the drawing functions -/
theorem u64_eq (n : Int) : IntKind.u64.wrap n = n % 18446744073709551616 := rfl
theorem and_ok (Y : Int) : 0 ≤ wrap64 (Go.bits .and .u64 (IntKind.u64.wrap Y / 1099511627776) 255) ∧ wrap64 (Go.bits .and .u64 (IntKind.u64.wrap Y / 1099511627776) 255) ≤ 255 := by
  rw [u64_eq]
  obtain ⟨m, hm⟩ : ∃ m : Nat, (Y % 18446744073709551616) / 1099511627776 = (m : Int) := ⟨((Y % 18446744073709551616) / 1099511627776).toNat, by omega⟩
  have hlt : m < 18446744073709551616 := by omega
  rw [hm, show (255 : Int) = ((255 : Nat) : Int) from rfl, Go.bits_and_u64_nat m 255 hlt (by omega)]
  have h2 : m &&& 255 ≤ 255 := Nat.and_le_right
  rw [wrap_of (by omega) (by omega)]
  omega
def byteL (l : List Int) : Prop := l.length ≤ 65536 ∧ ∀ x ∈ l, 0 ≤ x ∧ x ≤ 255
theorem rd_byte {l : List Int} (hl : byteL l) (i : Int) (h0 : 0 ≤ i) (h1 : i < (l.length : Int)) : 0 ≤ rd l i ∧ rd l i ≤ 255 := by
  have hi : i.toNat < l.length := by omega
  have e : rd l i = l[i.toNat] := by simp [rd, List.getD_eq_getElem?_getD, List.getElem?_eq_getElem hi]
  rw [e]
  exact hl.2 _ (List.getElem_mem hi)
theorem next_ok {l : List Int} (hl : byteL l) (s1 s2 : Int) (h0 : 0 ≤ s1) (h1 : s1 ≤ 1000000) : ∃ b s2', spec_l1Cur_next.f l s1 s2 = some (b, s1 + 1, s2') ∧ 0 ≤ b ∧ b ≤ 255 := by
  unfold spec_l1Cur_next.f
  rw [wrap_of (x := s1 + 1) (by omega) (by omega)]
  by_cases h : s1 < (l.length : Int)
  · have hr := rd_byte hl s1 h0 h
    rw [if_pos h, if_pos h0]
    by_cases h2 : s1 + 1 ≤ (l.length : Int)
    · rw [if_pos h2]
      exact ⟨_, _, rfl, by rw [wrap_of (by omega) (by omega)]; exact hr.1, by rw [wrap_of (by omega) (by omega)]; exact hr.2⟩
    · rw [if_neg h2]
      exact ⟨_, _, rfl, (and_ok _).1, (and_ok _).2⟩
  · rw [if_neg h]
    by_cases h2 : s1 + 1 ≤ (l.length : Int)
    · rw [if_pos h2]
      exact ⟨_, _, rfl, by omega, by omega⟩
    · rw [if_neg h2]
      exact ⟨_, _, rfl, (and_ok _).1, (and_ok _).2⟩
theorem pick_ok {l : List Int} (hl : byteL l) (s1 s2 n : Int) (h0 : 0 ≤ s1) (h1 : s1 ≤ 1000000) (hn : 2 ≤ n) (hn2 : n ≤ 200) : ∃ b s2', spec_l1Cur_pick.f l s1 s2 n = some (b, s1 + 1, s2') ∧ 0 ≤ b ∧ b < n := by
  obtain ⟨b, s2', hb, hb0, hb1⟩ := next_ok hl s1 s2 h0 h1
  unfold spec_l1Cur_pick.f
  rw [if_neg (by omega), hb]
  simp only [Option.bind_some]
  rw [if_neg (by omega), if_neg (by omega)]
  refine ⟨_, _, rfl, ?_, ?_⟩
  · rw [Int.tmod_eq_emod_of_nonneg hb0]; exact Int.emod_nonneg _ (by omega)
  · rw [Int.tmod_eq_emod_of_nonneg hb0]; exact Int.emod_lt_of_pos _ (by omega)

/-! ### the drawing functions that draw orders -/
theorem pick_any {l : List Int} (hl : byteL l) (s1 s2 n : Int) (h0 : 0 ≤ s1) (h1 : s1 ≤ 1000000) (hn : 1 ≤ n) (hn2 : n ≤ 200) : ∃ b s1' s2', spec_l1Cur_pick.f l s1 s2 n = some (b, s1', s2') ∧ 0 ≤ b ∧ b < n ∧ s1 ≤ s1' ∧ s1' ≤ s1 + 1 := by
  by_cases h : n = 1
  · subst h
    exact ⟨0, s1, s2, by unfold spec_l1Cur_pick.f; rw [if_pos (by omega)], by omega, by omega, by omega, by omega⟩
  · obtain ⟨b, s2', hb, hb0, hb1⟩ := pick_ok hl s1 s2 n h0 h1 (by omega) hn2
    exact ⟨b, s1 + 1, s2', hb, hb0, hb1, by omega, by omega⟩
theorem among_ok {l : List Int} (hl : byteL l) (s1 s2 : Int) (xs : List Int) (h0 : 0 ≤ s1) (h1 : s1 ≤ 1000000) (hn : 1 ≤ xs.length) (hn2 : xs.length ≤ 200) : ∃ x s1' s2', spec_l1Cur_among.f l s1 s2 xs = some (x, s1', s2') ∧ x ∈ xs ∧ s1 ≤ s1' ∧ s1' ≤ s1 + 1 := by
  obtain ⟨b, s1', s2', hb, hb0, hb1, hs, hs'⟩ := pick_any hl s1 s2 (xs.length : Int) h0 h1 (by omega) (by omega)
  unfold spec_l1Cur_among.f
  rw [hb]
  simp only [Option.bind_some]
  rw [if_pos hb0, if_pos hb1]
  refine ⟨_, _, _, rfl, ?_, hs, hs'⟩
  have hi : b.toNat < xs.length := by omega
  have e : rd xs b = xs[b.toNat] := by simp [rd, List.getD_eq_getElem?_getD, List.getElem?_eq_getElem hi]
  rw [e]
  exact List.getElem_mem hi
theorem own_ok (x : List Int) (h : x.length ≤ 1000) : spec_l1Own.f x = some x := by
  unfold spec_l1Own.f
  simp only [Option.bind_some, List.length_nil, Nat.zero_add, List.nil_append]
  rw [if_pos (by omega)]
theorem order_l {l : List Int} (hl : byteL l) : ∀ (d : Nat) (x : List Int) (s1 s2 : Int), x.length + d ≤ 7 → 1 ≤ x.length + d → 0 ≤ s1 → s1 + d ≤ 900000 →
    ∃ v, Ev (fun k => spec_l1Cur_order.l0 k x (d : Int) l s1 s2) v ∧ v.1.length ≤ 8 ∧ 0 ≤ v.2.1 ∧ v.2.1 ≤ s1 + d + 3 := by
  intro d
  induction d with
  | zero =>
    intro x s1 s2 hx hx1 h0 h1
    obtain ⟨p, s3, s4, hp, hp0, hp1, hs, hs'⟩ := pick_any hl s1 s2 40 h0 (by omega) (by omega) (by omega)
    by_cases hz : p = 0
    · refine ⟨([], s3, s4), ev_succ ?_, by simp, by simp only; omega, by simp only; omega⟩
      simp only [spec_l1Cur_order.l0.eq_2, hp]
      exact ev_neg (by omega) (ev_let (ev_pos hz (ev_now rfl)))
    · by_cases hz1 : p = 1
      · obtain ⟨q, s5, s6, hq, hq0, hq1, ht, ht'⟩ := pick_any hl s3 s4 (x.length : Int) (by omega) (by omega) (by omega) (by omega)
        obtain ⟨y, s7, s8, hy, _, hu, hu'⟩ := among_ok hl s5 s6 [0, 1, 8, (-1)] (by omega) (by omega) (by decide) (by decide)
        refine ⟨(x.set q.toNat y, s7, s8), ev_succ ?_, by simp; omega, by simp only; omega, by simp only; omega⟩
        simp only [spec_l1Cur_order.l0.eq_2, hp]
        refine ev_neg (by omega) (ev_let (ev_neg hz (ev_pos hz1 ?_)))
        simp only [hq]
        refine ev_let ?_
        simp only [hy]
        exact ev_let (ev_pos hq0 (ev_pos hq1 (ev_now rfl)))
      · by_cases hz2 : p = 2
        · refine ⟨([1, 2, 3, 4, 5, 6, 7, 8], s3, s4), ev_succ ?_, by simp, by simp only; omega, by simp only; omega⟩
          simp only [spec_l1Cur_order.l0.eq_2, hp]
          exact ev_neg (by omega) (ev_let (ev_neg hz (ev_neg hz1 (ev_pos hz2 (ev_now rfl)))))
        · refine ⟨(x, s3, s4), ev_succ ?_, by simp only; omega, by simp only; omega, by simp only; omega⟩
          simp only [spec_l1Cur_order.l0.eq_2, hp]
          exact ev_neg (by omega) (ev_let (ev_neg hz (ev_neg hz1 (ev_neg hz2 (ev_now rfl)))))
  | succ d ih =>
    intro x s1 s2 hx hx1 h0 h1
    obtain ⟨p, s3, s4, hp, hp0, hp1, hs, hs'⟩ := pick_any hl s1 s2 ((x.length : Int) + 1) h0 (by omega) (by omega) (by omega)
    have hw : wrap64 ((x.length : Int) + 1) = (x.length : Int) + 1 := wrap_of (by omega) (by omega)
    have hlen : ((x.take p.toNat ++ [(x.length : Int) + 1]) ++ x.drop p.toNat).length = x.length + 1 := by simp; omega
    obtain ⟨v, hv, hv1, hv2, hv3⟩ := ih ((x.take p.toNat ++ [(x.length : Int) + 1]) ++ x.drop p.toNat) s3 s4 (by rw [hlen]; omega) (by omega) (by omega) (by omega)
    refine ⟨v, ev_succ ?_, hv1, hv2, by omega⟩
    have how := own_ok (x.take p.toNat) (by simp; omega)
    simp only [spec_l1Cur_order.l0.eq_2, hw, hp]
    rw [wrap_of (x := ((d + 1 : Nat) : Int) - 1) (by omega) (by omega), show ((d + 1 : Nat) : Int) - 1 = (d : Int) by omega]
    refine ev_pos (by omega) (ev_let (ev_pos hp0 (ev_pos (by simp only; omega) ?_)))
    simp only [how]
    exact ev_let (ev_let (ev_pos (by simp; omega) (ev_let (ev_let (ev_pos (by simp; omega) hv)))))
theorem order_ok {l : List Int} (hl : byteL l) (s1 s2 : Int) (h0 : 0 ≤ s1) (h1 : s1 ≤ 800000) : ∃ v, Ev (fun k => spec_l1Cur_order.f k l s1 s2) v ∧ v.1.length ≤ 8 ∧ 0 ≤ v.2.1 ∧ v.2.1 ≤ s1 + 20 := by
  obtain ⟨y, s3, s4, hy, hm, hs, hs'⟩ := among_ok hl s1 s2 [4, 5, 3, 6, 2, 7, 1, 4] h0 (by omega) (by decide) (by decide)
  have hr : 1 ≤ y ∧ y ≤ 7 := by
    simp only [List.mem_cons, List.not_mem_nil, or_false] at hm
    omega
  obtain ⟨v, hv, hv1, hv2, hv3⟩ := order_l hl y.toNat [] s3 s4 (by simp; omega) (by simp; omega) (by omega) (by omega)
  refine ⟨v, ?_, hv1, hv2, by omega⟩
  unfold spec_l1Cur_order.f
  rw [hy]
  refine ev_let ?_
  rw [show ((y.toNat : Nat) : Int) = y by omega] at hv
  exact hv

/-! ### Is it an order? -/
theorem in_ev (a b c : Int) : Ev (fun _ => spec_l1In.f a b c) (decide (b ≤ a) && decide (a ≤ c)) := by
  unfold spec_l1In.f
  by_cases h : a ≥ b
  · refine ev_pos h (ev_now ?_)
    have : decide (b ≤ a) = true := decide_eq_true h
    rw [this]; rfl
  · refine ev_neg h (ev_now ?_)
    have : decide (b ≤ a) = false := decide_eq_false (by omega)
    rw [this]; rfl

theorem has_l (l : List Int) (x : Int) (hl : l.length ≤ 140737488351232) : ∀ (suf pre : List Int), l = pre ++ suf → Ev (fun k => spec_l1Has.l0 k l x (pre.length : Int)) (decide (x ∈ suf)) := by
  intro suf
  induction suf with
  | nil =>
    intro pre e
    have h := len_end e
    refine ev_succ ?_
    simp only [spec_l1Has.l0.eq_2]
    refine ev_neg (by omega) ?_
    exact ev_now (by simp)
  | cons c suf ih =>
    intro pre e
    have h := len_mid e
    refine ev_succ ?_
    simp only [spec_l1Has.l0.eq_2, rd_mid' e]
    refine ev_pos (by omega) (ev_pos (by omega) ?_)
    by_cases hc : c = x
    · exact ev_pos hc (ev_now (by simp [hc]))
    · refine ev_neg hc ?_
      rw [wrap_snoc (pre := pre) (c := c) (by omega)]
      refine ev_eq (ih _ (snoc_mid e)) ?_
      have : x ≠ c := fun h => hc h.symm
      simp [this]
theorem has_ev (l : List Int) (x : Int) (hl : l.length ≤ 140737488351232) : Ev (fun k => spec_l1Has.f k l x) (decide (x ∈ l)) := by
  unfold spec_l1Has.f
  exact has_l l x hl l [] rfl
theorem idx_l (l : List Int) (x : Int) (hl : l.length ≤ 140737488351232) : ∀ (suf pre : List Int), l = pre ++ suf → Ev (fun k => slices_Index_int_int.l0 k l x (l.length : Int) (pre.length : Int)) (if x ∈ suf then ((pre.length + suf.idxOf x : Nat) : Int) else -1) := by
  intro suf
  induction suf with
  | nil =>
    intro pre e
    have h := len_end e
    refine ev_succ ?_
    simp only [slices_Index_int_int.l0.eq_2]
    refine ev_neg (by omega) ?_
    exact ev_now (by simp)
  | cons c suf ih =>
    intro pre e
    have h := len_mid e
    refine ev_succ ?_
    simp only [slices_Index_int_int.l0.eq_2, rd_mid' e]
    refine ev_pos (by omega) (ev_pos (by omega) (ev_pos (by omega) ?_))
    by_cases hc : x = c
    · exact ev_pos hc (ev_now (by simp [hc]))
    · refine ev_neg hc ?_
      rw [wrap_snoc (pre := pre) (c := c) (by omega)]
      refine ev_eq (ih _ (snoc_mid e)) ?_
      have hc' : ¬ c = x := fun h => hc h.symm
      have hb : (c == x) = false := by simpa using hc'
      simp only [List.mem_cons, hc, false_or, List.idxOf_cons, hb, cond_false]
      by_cases hm : x ∈ suf
      · rw [if_pos hm, if_pos hm]; simp; omega
      · rw [if_neg hm, if_neg hm]
theorem idx_ev (l : List Int) (x : Int) (hl : l.length ≤ 140737488351232) : Ev (fun k => slices_Index_int_int.f k l x) (if x ∈ l then ((l.idxOf x : Nat) : Int) else -1) := by
  unfold slices_Index_int_int.f
  simpa using idx_l l x hl l [] rfl
theorem contains_ev (l : List Int) (x : Int) (hl : l.length ≤ 140737488351232) : Ev (fun k => slices_Contains_int_int.f k l x) (decide (x ∈ l)) := by
  unfold slices_Contains_int_int.f
  refine ev_bind (idx_ev l x hl) (ev_now ?_)
  by_cases h : x ∈ l
  · simp [h]
  · simp [h]


theorem spec_order_l (l : List Int) (hl : l.length ≤ 140737488351232) : ∀ (suf pre : List Int), l = pre ++ suf → Ev (fun k => spec_l2Order.l0 k l (pre.length : Int)) (ordGo (l.length : Int) pre suf) := by
  intro suf
  induction suf with
  | nil =>
    intro pre e
    have h := len_end e
    refine ev_succ ?_
    simp only [spec_l2Order.l0.eq_2]
    refine ev_neg (by omega) ?_
    exact ev_now rfl
  | cons c suf ih =>
    intro pre e
    have h := len_mid e
    refine ev_succ ?_
    simp only [spec_l2Order.l0.eq_2, rd_mid' e, take_mid e]
    refine ev_pos (by omega) (ev_pos (by omega) (ev_bind (in_ev _ _ _) ?_))
    by_cases hr : 1 ≤ c ∧ c ≤ (l.length : Int)
    · refine ev_pos (by simp [hr.1, hr.2]) (ev_pos (by omega) (ev_bind (has_ev pre c (by omega)) ?_))
      by_cases hc : c ∈ pre
      · exact ev_pos (by simp [hc]) (ev_now (by simp [ordGo, hc]))
      · refine ev_neg (by simp [hc]) ?_
        rw [wrap_snoc (pre := pre) (c := c) (by omega)]
        refine ev_eq (ih _ (snoc_mid e)) ?_
        simp [ordGo, hr.1, hr.2, hc]
    · refine ev_neg (by simp; omega) (ev_now ?_)
      simp only [ordGo]
      rw [if_neg (fun h => hr ⟨h.1, h.2.1⟩)]
theorem spec_order_ev (l : List Int) (hl : l.length ≤ 140737488351232) : Ev (fun k => spec_l2Order.f k l) (isOrd l) := by
  unfold spec_l2Order.f
  refine ev_bind (in_ev _ _ _) ?_
  unfold isOrd
  by_cases h : 1 ≤ l.length ∧ l.length ≤ 7
  · refine ev_pos (by simp; omega) ?_
    rw [if_pos h]
    exact spec_order_l l hl l [] rfl
  · refine ev_neg (by simp; omega) (ev_now ?_)
    rw [if_neg h]
theorem impl_order_l (l : List Int) (hl : l.length ≤ 140737488351232) : ∀ (suf pre : List Int), l = pre ++ suf → Ev (fun k => impl_isOrder.l0 k l l (l.length : Int) (pre.length : Int)) (ordGo (l.length : Int) pre suf) := by
  intro suf
  induction suf with
  | nil =>
    intro pre e
    have h := len_end e
    refine ev_succ ?_
    simp only [impl_isOrder.l0.eq_2]
    refine ev_neg (by omega) ?_
    exact ev_now rfl
  | cons c suf ih =>
    intro pre e
    have h := len_mid e
    refine ev_succ ?_
    simp only [impl_isOrder.l0.eq_2, rd_mid' e, take_mid e]
    refine ev_pos (by omega) (ev_pos (by omega) (ev_pos (by omega) ?_))
    by_cases h1 : c < 1
    · exact ev_pos h1 (ev_now (by simp only [ordGo]; rw [if_neg (fun h => by omega)]))
    refine ev_neg h1 ?_
    by_cases h2 : c > (l.length : Int)
    · exact ev_pos h2 (ev_now (by simp only [ordGo]; rw [if_neg (fun h => by omega)]))
    refine ev_neg h2 (ev_pos (by omega) (ev_bind (contains_ev pre c (by omega)) ?_))
    by_cases hc : c ∈ pre
    · exact ev_pos (by simp [hc]) (ev_now (by simp [ordGo, hc]))
    · refine ev_neg (by simp [hc]) ?_
      rw [wrap_snoc (pre := pre) (c := c) (by omega)]
      refine ev_eq (ih _ (snoc_mid e)) ?_
      simp only [ordGo]
      rw [if_pos ⟨by omega, by omega, hc⟩]
theorem impl_order_ev (l : List Int) (hl : l.length ≤ 140737488351232) : Ev (fun k => impl_isOrder.f k l) (isOrd l) := by
  have key : ∀ b : Bool, Ev (fun k => impl_isOrder.j0 k l b) (if b = true then false else ordGo (l.length : Int) [] l) := by
    intro b
    refine ev_succ ?_
    simp only [impl_isOrder.j0.eq_2]
    cases b with
    | true => exact ev_pos rfl (ev_now rfl)
    | false => exact ev_neg (by simp) (impl_order_l l hl l [] rfl)
  unfold impl_isOrder.f isOrd
  by_cases h1 : (l.length : Int) < 1
  · refine ev_pos h1 (ev_eq (key true) ?_)
    rw [if_pos rfl, if_neg (fun h => by omega)]
  · refine ev_neg h1 (ev_eq (key _) ?_)
    by_cases h2 : (l.length : Int) > 7
    · rw [if_neg (c := 1 ≤ l.length ∧ l.length ≤ 7) (fun h => by omega), if_pos (decide_eq_true h2)]
    · rw [if_pos (c := 1 ≤ l.length ∧ l.length ≤ 7) ⟨by omega, by omega⟩, if_neg (by simp; omega)]


theorem same_l (a b : List Int) (hl : a.length * 8 ≤ 140737488351232) : ∀ (s t pre q : List Int), a = pre ++ s → b = q ++ t → pre.length = q.length → s.length = t.length → Ev (fun k => spec_l1Same.l0 k a b (pre.length : Int)) (decide (s = t)) := by
  intro s
  induction s with
  | nil =>
    intro t pre q e e' h1 h2
    have h := len_end e
    obtain rfl : t = [] := by cases t with
      | nil => rfl
      | cons _ _ => simp at h2
    refine ev_succ ?_
    simp only [spec_l1Same.l0.eq_2]
    refine ev_neg (by omega) ?_
    exact ev_now (by simp)
  | cons c s ih =>
    intro t pre q e e' h1 h2
    cases t with
    | nil => simp at h2
    | cons d t =>
    have h := len_mid e
    have h' := len_mid e'
    refine ev_succ ?_
    have r1 := rd_mid' e
    have r2 := rd_mid' e'
    rw [← h1] at r2
    simp only [spec_l1Same.l0.eq_2, r1, r2]
    refine ev_pos (by omega) (ev_pos (by omega) (ev_pos (by omega) ?_))
    by_cases hc : c = d
    · refine ev_pos hc ?_
      rw [wrap_snoc (pre := pre) (c := c) (by omega)]
      refine ev_eq (ih t (pre ++ [c]) (q ++ [d]) (snoc_mid e) (snoc_mid e') (by simp [h1]) (by simpa using h2)) ?_
      simp [hc]
    · refine ev_neg hc (ev_now ?_)
      simp [hc]
theorem same_ev (a b : List Int) (hl : a.length * 8 ≤ 140737488351232) : Ev (fun k => spec_l1Same.f k a b) (decide (a = b)) := by
  unfold spec_l1Same.f
  by_cases h : a.length = b.length
  · refine ev_pos (by omega) ?_
    exact same_l a b hl a b [] [] rfl rfl rfl h
  · refine ev_neg (by omega) (ev_now ?_)
    symm
    exact decide_eq_false (fun e => h (by rw [e]))

/-! ### factorials, the sorted order -/
theorem fact_tab : ∀ i : Fin 8, impl_factorial.f 20 ((i.val : Nat) : Int) = some ((fac i.val : Nat) : Int) := by decide +kernel
theorem fact_ev (n : Nat) (h : n ≤ 7) : Ev (fun k => impl_factorial.f k (n : Int)) ((fac n : Nat) : Int) := Ev.of (fun k => impl_factorial.mono _ k) (fact_tab ⟨n, by omega⟩)
theorem ways_tab : ∀ i : Fin 8, spec_l2Ways.f 20 ((i.val : Nat) : Int) = some ((fac i.val : Nat) : Int) := by decide +kernel
theorem ways_ev (n : Nat) (h : n ≤ 7) : Ev (fun k => spec_l2Ways.f k (n : Int)) ((fac n : Nat) : Int) := Ev.of (fun k => spec_l2Ways.mono _ k) (ways_tab ⟨n, by omega⟩)
theorem sorted_tab : ∀ i : Fin 8, impl_sorted.f 20 ((i.val : Nat) : Int) = some (iota 1 i.val) := by decide +kernel
theorem sorted_ev (n : Nat) (h : n ≤ 7) : Ev (fun k => impl_sorted.f k (n : Int)) (iota 1 n) := Ev.of (fun k => impl_sorted.mono _ k) (sorted_tab ⟨n, by omega⟩)
theorem delete_ev (l : List Int) (i : Nat) (h : i < l.length) (hl : l.length ≤ 7) : Ev (fun _ => slices_Delete_int_int.f l (i : Int) (wrap64 ((i : Int) + 1))) (l.eraseIdx i) := by
  unfold slices_Delete_int_int.f
  rw [wrap_of (by omega) (by omega)]
  refine ev_pos (by omega) (ev_pos (by omega) (ev_pos (by omega) (ev_now ?_)))
  rw [← take_drop_erase]
  simp

/-! ### what comes out by a word -/
theorem spec_run_l (l : List Int) (w : ByteArray) (hl : l.length ≤ 7) (hw : w.size ≤ 14) : ∀ (suf pre rem done st out : List Int), bytesOf w = pre ++ suf → l = done ++ rem → wGo suf (st.length : Int) = true → suf.length = 2 * rem.length + st.length → out.length + st.length ≤ 7 → done.length = out.length + st.length → Ev (fun k => spec_l2Run.l0 k l w out.reverse st.reverse (done.length : Int) (pre.length : Int)) (runGo suf rem st out) := by
  intro suf
  induction suf with
  | nil =>
    intro pre rem done st out e el hg h2 h3 h4
    have h := size_end e
    refine ev_succ ?_
    simp only [spec_l2Run.l0.eq_2]
    exact ev_neg (by omega) (ev_now (by simp [runGo]))
  | cons c suf ih =>
    intro pre rem done st out e el hg h2 h3 h4
    have h := size_mid e
    simp only [List.length_cons] at h2
    refine ev_succ ?_
    simp only [spec_l2Run.l0.eq_2, bt_mid e]
    rw [wrap_snoc (pre := pre) (c := c) (by omega)]
    refine ev_pos (by omega) (ev_pos (by omega) ?_)
    by_cases hI : c = 73
    · subst hI
      rw [wGo_in] at hg
      have hlen := wGo_len _ _ (by omega) hg
      cases rem with
      | nil => simp only [List.length_nil] at h2; omega
      | cons x rem =>
        have hd := len_mid el
        simp only [List.length_cons] at h2
        rw [rd_mid' el, wrap_snoc (pre := done) (c := x) (by omega), show st.reverse ++ [x] = (x :: st).reverse by simp]
        refine ev_pos rfl (ev_pos (by omega) (ev_pos (by omega) (ev_pos (by simp; omega) ?_)))
        refine ev_eq (ih _ rem (done ++ [x]) (x :: st) out (snoc_mid e) (snoc_mid el) ?_ ?_ ?_ ?_) ?_
        · simpa using hg
        · simp only [List.length_cons]; omega
        · simp only [List.length_cons]; omega
        · simp; omega
        · simp [runGo]
    · by_cases hO : c = 79
      · subst hO
        rw [wGo_out] at hg
        by_cases hd : (st.length : Int) > 0
        · rw [if_pos hd] at hg
          cases st with
          | nil => simp at hd
          | cons x st =>
            simp only [List.length_cons] at hg h2 h3 h4
            have hlen : ((x :: st).reverse.length : Int) = st.length + 1 := by simp
            rw [wrap_of (x := ((x :: st).reverse.length : Int) - 1) (by omega) (by omega), top_rev, pop_rev, show out.reverse ++ [x] = (x :: out).reverse by simp]
            refine ev_neg hI (ev_pos (by omega) (ev_pos (by omega) (ev_pos (by simp; omega) (ev_pos (by omega) ?_))))
            refine ev_eq (ih _ rem done st (x :: out) (snoc_mid e) el ?_ ?_ ?_ ?_) ?_
            · rw [show ((st.length : Nat) : Int) = ((st.length + 1 : Nat) : Int) - 1 by omega]; exact hg
            · omega
            · simp only [List.length_cons]; omega
            · simp only [List.length_cons]; omega
            · simp [runGo]
        · rw [if_neg hd] at hg; cases hg
      · simp only [wGo] at hg
        rw [if_neg hI, if_neg hO] at hg; cases hg
theorem spec_run_ev (l : List Int) (w : ByteArray) (hl : l.length ≤ 7) (hg : wGo (bytesOf w) 0 = true) (hw : w.size = 2 * l.length) : Ev (fun k => spec_l2Run.f k l w) (runL l (bytesOf w)) := by
  unfold spec_l2Run.f
  exact spec_run_l l w hl (by omega) (bytesOf w) [] l [] [] [] rfl rfl (by simpa using hg) (by rw [bytes_len]; simp; omega) (by simp) (by simp)

theorem impl_run_l (w : ByteArray) (hw : w.size ≤ 14) : ∀ (suf pre rem st out : List Int), bytesOf w = pre ++ suf → wGo suf (st.length : Int) = true → suf.length = 2 * rem.length + st.length → out.length + st.length + rem.length ≤ 7 → Ev (fun k => impl_runWord.l0 k rem w st.reverse out.reverse (w.size : Int) (pre.length : Int)) (runGo suf rem st out) := by
  intro suf
  induction suf with
  | nil =>
    intro pre rem st out e hg h2 h3
    have h := size_end e
    refine ev_succ ?_
    simp only [impl_runWord.l0.eq_2]
    exact ev_neg (by omega) (ev_now (by simp [runGo]))
  | cons c suf ih =>
    intro pre rem st out e hg h2 h3
    have h := size_mid e
    simp only [List.length_cons] at h2
    refine ev_succ ?_
    simp only [impl_runWord.l0.eq_2, bt_mid e]
    rw [wrap_snoc (pre := pre) (c := c) (by omega)]
    refine ev_pos (by omega) (ev_pos (by omega) (ev_pos (by omega) ?_))
    by_cases hI : c = 73
    · subst hI
      rw [wGo_in] at hg
      have hlen := wGo_len _ _ (by omega) hg
      cases rem with
      | nil => simp only [List.length_nil] at h2; omega
      | cons x rem =>
        simp only [List.length_cons] at h2 h3
        rw [show rd (x :: rem) 0 = x from rfl, show st.reverse ++ [x] = (x :: st).reverse by simp, show (x :: rem).drop 1 = rem from rfl]
        refine ev_pos rfl (ev_pos (by simp only [List.length_cons]; omega) (ev_pos (by simp; omega) (ev_pos (by simp only [List.length_cons]; omega) ?_)))
        refine ev_eq (ih _ rem (x :: st) out (snoc_mid e) ?_ ?_ ?_) ?_
        · simpa using hg
        · simp only [List.length_cons]; omega
        · simp only [List.length_cons]; omega
        · simp [runGo]
    · by_cases hO : c = 79
      · subst hO
        rw [wGo_out] at hg
        by_cases hd : (st.length : Int) > 0
        · rw [if_pos hd] at hg
          cases st with
          | nil => simp at hd
          | cons x st =>
            simp only [List.length_cons] at hg h2 h3
            have hlen : ((x :: st).reverse.length : Int) = st.length + 1 := by simp
            rw [wrap_of (x := ((x :: st).reverse.length : Int) - 1) (by omega) (by omega), top_rev, pop_rev, show out.reverse ++ [x] = (x :: out).reverse by simp]
            refine ev_neg hI (ev_pos (by omega) (ev_pos (by omega) (ev_pos (by simp; omega) (ev_pos (by omega) ?_))))
            refine ev_eq (ih _ rem st (x :: out) (snoc_mid e) ?_ ?_ ?_) ?_
            · rw [show ((st.length : Nat) : Int) = ((st.length + 1 : Nat) : Int) - 1 by omega]; exact hg
            · omega
            · simp only [List.length_cons]; omega
            · simp [runGo]
        · rw [if_neg hd] at hg; cases hg
      · simp only [wGo] at hg
        rw [if_neg hI, if_neg hO] at hg; cases hg
theorem impl_run_ev (l : List Int) (w : ByteArray) (hl : l.length ≤ 7) (hg : wGo (bytesOf w) 0 = true) (hw : w.size = 2 * l.length) : Ev (fun k => impl_runWord.f k l w) (runL l (bytesOf w)) := by
  unfold impl_runWord.f
  exact impl_run_l w (by omega) (bytesOf w) [] l [] [] rfl (by simpa using hg) (by rw [bytes_len]; simp; omega) (by simp; omega)

/-! ### the word of the sweep -/
theorem popG_sum (b : Int) : ∀ (st out : List Int), (impl_sweepWord.popG b st out).1.length + (impl_sweepWord.popG b st out).2.length = st.length + out.length := by
  intro st
  induction st with
  | nil => intro out; simp [impl_sweepWord.popG]
  | cons x s ih =>
    intro out
    simp only [impl_sweepWord.popG]
    split
    · rw [ih]; simp; omega
    · rfl
theorem popG_less (b : Int) : ∀ (st out : List Int), (impl_sweepWord.popG b st out).1.length ≤ st.length := by
  intro st
  induction st with
  | nil => intro out; simp [impl_sweepWord.popG]
  | cons x s ih =>
    intro out
    simp only [impl_sweepWord.popG]
    split
    · exact Nat.le_trans (ih _) (by simp)
    · exact Nat.le_refl _
theorem popG_mem (b : Int) : ∀ (st out : List Int), ∀ y ∈ (impl_sweepWord.popG b st out).1, y ∈ st := by
  intro st
  induction st with
  | nil => intro out y h; simp [impl_sweepWord.popG] at h
  | cons x s ih =>
    intro out y
    simp only [impl_sweepWord.popG]
    split
    · intro h; exact List.mem_cons_of_mem _ (ih _ y h)
    · exact fun h => h
theorem pop8 : ∀ (st out : List Int), (∀ x ∈ st, x < 8) → impl_sweepWord.popG 8 st out = ([], out ++ List.replicate st.length 79) := by
  intro st
  induction st with
  | nil => intro out _; simp [impl_sweepWord.popG]
  | cons x s ih =>
    intro out h
    rw [impl_sweepWord.popG, if_pos (h x (by simp)), ih _ (fun y hy => h y (by simp [hy]))]
    simp [List.replicate_succ]
theorem ord_small {l : List Int} (h : isOrd l = true) : ∀ x ∈ l, x < 8 := fun x hx => by
  have := ord_range h x hx; have := (ord_len h).2; omega
theorem impl_sweepword_ev (l : List Int) (h : isOrd l = true) : Ev (fun _ => impl_sweepWord.f l) (strOfNums (impl_sweepWord.goG l [] [])) := by
  unfold impl_sweepWord.f
  have := (ord_len h).2
  exact ev_pos (by omega) (ev_now rfl)

theorem spec_sw_2 : ∀ (j : Nat) (st out : List Int) (i : Nat), st.length = i + j → out.length + j ≤ 100 → st.length ≤ 100 → Ev (fun k => spec_l4SweepWord.l2 k (strOfNums out) st.reverse (i : Int)) (strOfNums (out ++ List.replicate j 79)) := by
  intro j
  induction j with
  | zero =>
    intro st out i h ho hs
    refine ev_succ ?_
    simp only [spec_l4SweepWord.l2.eq_2]
    exact ev_neg (by simp; omega) (ev_now (by simp))
  | succ j ih =>
    intro st out i h ho hs
    have hsz : (strOfNums out).size = out.length := str_size out
    refine ev_succ ?_
    simp only [spec_l4SweepWord.l2.eq_2, str_snocO]
    rw [wrap_of (by omega) (by omega), show (i : Int) + 1 = ((i + 1 : Nat) : Int) by omega]
    refine ev_pos (by simp; omega) (ev_pos (by omega) (ev_eq (ih st (out ++ [79]) (i + 1) (by omega) (by simp; omega) hs) ?_))
    simp [List.replicate_succ]
theorem spec_sw_1 (l : List Int) (n : Int) (i : Nat) (hi : i < l.length) (hl : l.length ≤ 7) (hn : rd l (i : Int) = n) (R : ByteArray) : ∀ (st out : List Int), st.length + out.length ≤ 100 →
    Ev (fun k => spec_l4SweepWord.l0 k l (strOfNums ((impl_sweepWord.popG n st out).2 ++ [73])) (n :: (impl_sweepWord.popG n st out).1).reverse (wrap64 ((i : Int) + 1))) R →
    Ev (fun k => spec_l4SweepWord.l1 k l (strOfNums out) st.reverse (i : Int)) R := by
  intro st
  induction st with
  | nil =>
    intro out h hR
    have hsz : (strOfNums out).size = out.length := str_size out
    refine ev_succ ?_
    simp only [spec_l4SweepWord.l1.eq_2, hn, str_snocI]
    refine ev_neg (by simp) (ev_pos (by omega) (ev_pos (by omega) (ev_pos (by simp) (ev_pos (by simp at h; omega) ?_))))
    simpa [impl_sweepWord.popG] using hR
  | cons x s ih =>
    intro out h hR
    simp only [List.length_cons] at h
    have hsz : (strOfNums out).size = out.length := str_size out
    have hl2 : ((x :: s).reverse.length : Int) = (s.length : Int) + 1 := by simp
    refine ev_succ ?_
    simp only [spec_l4SweepWord.l1.eq_2, hn, str_snocI, str_snocO]
    rw [wrap_of (x := ((x :: s).reverse.length : Int) - 1) (by omega) (by omega), top_rev, pop_rev]
    refine ev_pos (by omega) (ev_pos (by omega) (ev_pos (by omega) (ev_pos (by omega) (ev_pos (by omega) ?_))))
    by_cases hx : x < n
    · rw [impl_sweepWord.popG, if_pos hx] at hR
      exact ev_pos hx (ev_pos (by omega) (ev_pos (by omega) (ih (out ++ [79]) (by simp; omega) hR)))
    · rw [impl_sweepWord.popG, if_neg hx] at hR
      exact ev_neg hx (ev_pos (by simp; omega) (ev_pos (by omega) (by simpa using hR)))
theorem spec_sw_0 (l : List Int) (hl : l.length ≤ 7) (h8 : ∀ x ∈ l, x < 8) : ∀ (suf pre st out : List Int), l = pre ++ suf → (∀ x ∈ st, x < 8) → st.length ≤ pre.length → st.length + out.length = 2 * pre.length →
    Ev (fun k => spec_l4SweepWord.l0 k l (strOfNums out) st.reverse (pre.length : Int)) (strOfNums (impl_sweepWord.goG suf st out)) := by
  intro suf
  induction suf with
  | nil =>
    intro pre st out e hs h1 h2
    have h := len_end e
    refine ev_succ ?_
    simp only [spec_l4SweepWord.l0.eq_2]
    refine ev_neg (by omega) (ev_eq (spec_sw_2 st.length st out 0 (by omega) (by omega) (by omega)) ?_)
    rw [impl_sweepWord.goG, pop8 _ _ hs]
  | cons c suf ih =>
    intro pre st out e hs h1 h2
    have h := len_mid e
    have hp1 := popG_sum c st out
    have hp2 := popG_less c st out
    refine ev_succ ?_
    simp only [spec_l4SweepWord.l0.eq_2]
    refine ev_pos (by omega) (spec_sw_1 l c pre.length (by omega) hl (rd_mid' e) _ st out (by omega) ?_)
    rw [wrap_snoc (pre := pre) (c := c) (by omega)]
    refine ev_eq (ih _ _ _ (snoc_mid e) ?_ (by simp; omega) (by simp; omega)) (by rw [impl_sweepWord.goG])
    intro x hx
    rcases List.mem_cons.1 hx with hx | hx
    · rw [hx]; exact h8 c (by rw [e]; simp)
    · exact hs x (popG_mem c st out x hx)
theorem spec_sweepword_ev (l : List Int) (h : isOrd l = true) : Ev (fun k => spec_l4SweepWord.f k l) (strOfNums (impl_sweepWord.goG l [] [])) := by
  unfold spec_l4SweepWord.f
  have := spec_sw_0 l (ord_len h).2 (ord_small h) l [] [] [] rfl (by simp) (by simp) (by simp)
  simpa [str_nil] using this

/-! ### the sweep's word is a word -/
theorem popG_form (n : Int) : ∀ (st out : List Int), ∃ (j : Nat) (s : List Int), impl_sweepWord.popG n st out = (s, out ++ List.replicate j 79) ∧ st.length = j + s.length ∧ (∀ y ∈ s, y ∈ st) := by
  intro st
  induction st with
  | nil => intro out; exact ⟨0, [], by simp [impl_sweepWord.popG], rfl, fun _ h => h⟩
  | cons x s ih =>
    intro out
    by_cases hx : x < n
    · obtain ⟨j, s', h1, h2, h3⟩ := ih (out ++ [79])
      refine ⟨j + 1, s', ?_, by simp; omega, fun y hy => List.mem_cons_of_mem _ (h3 y hy)⟩
      rw [impl_sweepWord.popG, if_pos hx, h1]
      simp [List.replicate_succ]
    · exact ⟨0, x :: s, by rw [impl_sweepWord.popG, if_neg hx]; simp, by simp, fun _ h => h⟩
theorem wGo_rep : ∀ (j : Nat) (r : List Int) (d : Nat), j ≤ d → wGo (List.replicate j 79 ++ r) (d : Int) = wGo r ((d - j : Nat) : Int) := by
  intro j
  induction j with
  | zero => intro r d h; simp
  | succ j ih =>
    intro r d h
    rw [List.replicate_succ, List.cons_append, wGo_out, if_pos (by omega), show (d : Int) - 1 = ((d - 1 : Nat) : Int) by omega, ih r (d - 1) (by omega)]
    congr 2
    omega
theorem goG_word : ∀ (suf st out : List Int), (∀ x ∈ st, x < 8) → (∀ x ∈ suf, x < 8) → ∃ r, impl_sweepWord.goG suf st out = out ++ r ∧ wGo r (st.length : Int) = true ∧ r.length = 2 * suf.length + st.length ∧ (∀ c ∈ r, c = 73 ∨ c = 79) := by
  intro suf
  induction suf with
  | nil =>
    intro st out hs _
    refine ⟨List.replicate st.length 79, by rw [impl_sweepWord.goG, pop8 _ _ hs], ?_, by simp, fun c hc => .inr (List.eq_of_mem_replicate hc)⟩
    have := wGo_rep st.length [] st.length (Nat.le_refl _)
    rw [List.append_nil] at this
    rw [this]
    simp [wGo]
  | cons n t ih =>
    intro st out hs ht
    obtain ⟨j, s, h1, h2, h3⟩ := popG_form n st out
    obtain ⟨r, g1, g2, g3, g4⟩ := ih (n :: s) (out ++ List.replicate j 79 ++ [73]) (by
      intro x hx
      rcases List.mem_cons.1 hx with hx | hx
      · rw [hx]; exact ht n (by simp)
      · exact hs x (h3 x hx)) (fun x hx => ht x (by simp [hx]))
    refine ⟨List.replicate j 79 ++ 73 :: r, ?_, ?_, ?_, ?_⟩
    · rw [impl_sweepWord.goG, h1, g1]; simp
    · rw [wGo_rep j _ st.length (by omega), wGo_in]
      have e : ((st.length - j : Nat) : Int) + 1 = ((n :: s).length : Int) := by simp; omega
      rw [e]; exact g2
    · simp at g3 ⊢; omega
    · intro c hc
      rcases List.mem_append.1 hc with hc | hc
      · exact .inr (List.eq_of_mem_replicate hc)
      · rcases List.mem_cons.1 hc with hc | hc
        · exact .inl hc
        · exact g4 c hc
def swW (l : List Int) : ByteArray := strOfNums (impl_sweepWord.goG l [] [])
theorem swW_ok {l : List Int} (h : isOrd l = true) : bytesOf (swW l) = impl_sweepWord.goG l [] [] ∧ wGo (bytesOf (swW l)) 0 = true ∧ (swW l).size = 2 * l.length := by
  obtain ⟨r, g1, g2, g3, g4⟩ := goG_word l [] [] (by simp) (ord_small h)
  rw [List.nil_append] at g1
  have hb : bytesOf (swW l) = impl_sweepWord.goG l [] [] := by
    unfold swW
    refine bytes_str (fun x hx => ?_)
    rw [g1] at hx
    rcases g4 x hx with h | h <;> omega
  refine ⟨hb, ?_, ?_⟩
  · rw [hb, g1]; exact g2
  · unfold swW; rw [str_size, g1, g3]; simp
def sweepL (l : List Int) : List Int := runL l (bytesOf (swW l))
theorem sweepL_length {l : List Int} (h : isOrd l = true) : (sweepL l).length ≤ 14 := by
  obtain ⟨h1, h2, h3⟩ := swW_ok h
  have := runGo_length (bytesOf (swW l)) l [] []
  rw [bytes_len, h3] at this
  have h7 := (ord_len h).2
  unfold sweepL runL; simp at this; omega

theorem impl_sweep_ev (l : List Int) (h : isOrd l = true) : Ev (fun k => impl_sweep.f k l) (sweepL l) := by
  unfold impl_sweep.f
  obtain ⟨h1, h2, h3⟩ := swW_ok h
  exact ev_bind (impl_sweepword_ev l h) (ev_bind (impl_run_ev l (swW l) (ord_len h).2 h2 h3) (ev_now rfl))

theorem spec_sweep_ev (l : List Int) (h : isOrd l = true) : Ev (fun k => spec_l4Sweep.f k l) (sweepL l) := by
  unfold spec_l4Sweep.f
  obtain ⟨h1, h2, h3⟩ := swW_ok h
  exact ev_bind (spec_sweepword_ev l h) (ev_bind (spec_run_ev l (swW l) (ord_len h).2 h2 h3) (ev_now rfl))

theorem own_ev (l : List Int) (h : l.length ≤ 1000000) : Ev (fun _ => spec_l1Own.f l) l := by
  unfold spec_l1Own.f
  exact ev_let (ev_pos (by simp; omega) (ev_now (by simp)))

/-! ### the order with a rank -/
theorem tdiv_nat (a b : Nat) : Int.tdiv (a : Int) (b : Int) = ((a / b : Nat) : Int) := (Int.ofNat_tdiv a b).symm
theorem tmod_nat (a b : Nat) : Int.tmod (a : Int) (b : Int) = ((a % b : Nat) : Int) := (Int.ofNat_tmod a b).symm
theorem rd_getD (l : List Int) (n : Nat) : rd l (n : Int) = l.getD n 0 := by unfold rd; simp
theorem impl_oat_l : ∀ (r : Nat) (left out : List Int) (k : Nat), left.length = r → r ≤ 7 → out.length + r ≤ 7 → k < fac r → Ev (fun n => impl_orderAt.l0 n (k : Int) left out) (out ++ atGo r left k) := by
  intro r
  induction r with
  | zero =>
    intro left out k hl h7 ho hk
    refine ev_succ ?_
    simp only [impl_orderAt.l0.eq_2]
    exact ev_neg (by omega) (ev_now (by simp [atGo]))
  | succ r ih =>
    intro left out k hl h7 ho hk
    have hp := fac_pos r
    have hf := fac_le (n := r) (by omega)
    have hq : k / fac r < r + 1 := by rw [fac] at hk; rw [Nat.div_lt_iff_lt_mul hp]; exact hk
    have hm : k % fac r < fac r := Nat.mod_lt _ hp
    obtain ⟨q, hqe⟩ : ∃ q, q = k / fac r := ⟨_, rfl⟩
    rw [← hqe] at hq
    refine ev_succ ?_
    simp only [impl_orderAt.l0.eq_2]
    rw [wrap_of (x := (left.length : Int) - 1) (by omega) (by omega), show (left.length : Int) - 1 = (r : Int) by omega]
    refine ev_pos (by omega) (ev_bind (fact_ev r (by omega)) ?_)
    rw [tdiv_nat, tmod_nat, ← hqe, wrap_of (x := ((q : Nat) : Int)) (by omega) (by omega)]
    refine ev_neg (by omega) (ev_pos (by omega) (ev_pos (by omega) (ev_pos (by omega) (ev_bind (delete_ev left q (by omega) (by omega)) ?_))))
    rw [rd_getD]
    refine ev_eq (ih _ _ _ (by rw [List.length_eraseIdx_of_lt (by omega)]; omega) (by omega) (by simp; omega) hm) ?_
    simp [atGo, hqe]
theorem spec_oat_l : ∀ (r : Nat) (left out : List Int) (k : Nat), left.length = r → r ≤ 7 → out.length + r ≤ 7 → k < fac r → Ev (fun n => spec_l2At.l0 n (k : Int) out left) (out ++ atGo r left k) := by
  intro r
  induction r with
  | zero =>
    intro left out k hl h7 ho hk
    refine ev_succ ?_
    simp only [spec_l2At.l0.eq_2]
    exact ev_neg (by omega) (ev_now (by simp [atGo]))
  | succ r ih =>
    intro left out k hl h7 ho hk
    have hp := fac_pos r
    have hf := fac_le (n := r) (by omega)
    have hq : k / fac r < r + 1 := by rw [fac] at hk; rw [Nat.div_lt_iff_lt_mul hp]; exact hk
    have hm : k % fac r < fac r := Nat.mod_lt _ hp
    obtain ⟨q, hqe⟩ : ∃ q, q = k / fac r := ⟨_, rfl⟩
    rw [← hqe] at hq
    refine ev_succ ?_
    simp only [spec_l2At.l0.eq_2]
    rw [wrap_of (x := (left.length : Int) - 1) (by omega) (by omega), show (left.length : Int) - 1 = (r : Int) by omega]
    refine ev_pos (by omega) (ev_bind (ways_ev r (by omega)) ?_)
    rw [tdiv_nat, tmod_nat, ← hqe, wrap_of (x := ((q : Nat) : Int)) (by omega) (by omega), wrap_of (x := ((q : Nat) : Int) + 1) (by omega) (by omega)]
    refine ev_neg (by omega) (ev_pos (by omega) (ev_pos (by omega) (ev_pos (by omega) (ev_pos (by omega) (ev_bind (own_ev _ (by simp; omega)) (ev_pos (by omega) (ev_pos (by omega) (ev_let (ev_pos (by simp; omega) ?_)))))))))
    rw [rd_getD, show ((((q : Nat) : Int)).toNat) = q by omega, show (((((q : Nat) : Int)) + 1).toNat) = q + 1 by omega, take_drop_erase]
    refine ev_eq (ih _ _ _ (by rw [List.length_eraseIdx_of_lt (by omega)]; omega) (by omega) (by simp; omega) hm) ?_
    simp [atGo, hqe]
theorem spec_sorted_tab : ∀ i : Fin 8, spec_l2Sorted.f 20 ((i.val : Nat) : Int) = some (iota 1 i.val) := by decide +kernel
theorem spec_sorted_ev (n : Nat) (h : n ≤ 7) : Ev (fun k => spec_l2Sorted.f k (n : Int)) (iota 1 n) := Ev.of (fun k => spec_l2Sorted.mono _ k) (spec_sorted_tab ⟨n, by omega⟩)

/-! ### all orders -/
theorem impl_orders_l (n : Nat) (hn : n ≤ 7) : ∀ (d j : Nat), j + d = fac n → Ev (fun k => impl_allOrders.l0 k (n : Int) ((List.range j).map (orderAtL n)) (fac n : Int) (j : Int)) (ordersL n) := by
  intro d
  have hf := fac_le hn
  induction d with
  | zero =>
    intro j e
    refine ev_succ ?_
    simp only [impl_allOrders.l0.eq_2]
    exact ev_neg (by omega) (ev_now (by unfold ordersL; rw [← e]; rfl))
  | succ d ih =>
    intro j e
    refine ev_succ ?_
    simp only [impl_allOrders.l0.eq_2]
    rw [wrap_of (x := (j : Int) + 1) (by omega) (by omega)]
    refine ev_pos (by omega) (ev_bind (a := orderAtL n j) ?_ (ev_pos (by simp; omega) ?_))
    · unfold impl_orderAt.f
      refine ev_bind (sorted_ev n hn) ?_
      exact impl_oat_l n (iota 1 n) [] j (iota_length _ _) (by omega) (by simp; omega) (by omega)
    · have h := ih (j + 1) (by omega)
      rw [List.range_succ, List.map_append] at h
      exact h
theorem impl_orders_ev (n : Nat) (hn : n ≤ 7) : Ev (fun k => impl_allOrders.f k (n : Int)) (ordersL n) := by
  unfold impl_allOrders.f
  exact ev_bind (fact_ev n hn) (impl_orders_l n hn (fac n) 0 (by omega))
theorem spec_orders_l (n : Nat) (hn : n ≤ 7) : ∀ (d j : Nat), j + d = fac n → Ev (fun k => spec_l2Orders.l0 k (n : Int) ((List.range j).map (orderAtL n)) (j : Int)) (ordersL n) := by
  intro d
  have hf := fac_le hn
  induction d with
  | zero =>
    intro j e
    refine ev_succ ?_
    simp only [spec_l2Orders.l0.eq_2]
    exact ev_bind (ways_ev n hn) (ev_neg (by omega) (ev_now (by unfold ordersL; rw [← e]; rfl)))
  | succ d ih =>
    intro j e
    refine ev_succ ?_
    simp only [spec_l2Orders.l0.eq_2]
    rw [wrap_of (x := (j : Int) + 1) (by omega) (by omega)]
    refine ev_bind (ways_ev n hn) (ev_pos (by omega) (ev_bind (a := orderAtL n j) ?_ (ev_pos (by simp; omega) ?_)))
    · unfold spec_l2At.f
      refine ev_bind (spec_sorted_ev n hn) ?_
      exact spec_oat_l n (iota 1 n) [] j (iota_length _ _) (by omega) (by simp; omega) (by omega)
    · have h := ih (j + 1) (by omega)
      rw [List.range_succ, List.map_append] at h
      exact h
theorem spec_orders_ev (n : Nat) (hn : n ≤ 7) : Ev (fun k => spec_l2Orders.f k (n : Int)) (ordersL n) := by
  unfold spec_l2Orders.f
  exact spec_orders_l n hn (fac n) 0 (by omega)

/-! ### slices.Equal -/
theorem equal_l (a b : List Int) (hl : a.length * 8 ≤ 140737488351232) : ∀ (s t pre q : List Int), a = pre ++ s → b = q ++ t → pre.length = q.length → s.length = t.length → Ev (fun k => slices_Equal_int_int.l0 k a b (a.length : Int) (pre.length : Int)) (decide (s = t)) := by
  intro s
  induction s with
  | nil =>
    intro t pre q e e' h1 h2
    have h := len_end e
    obtain rfl : t = [] := by cases t with
      | nil => rfl
      | cons _ _ => simp at h2
    refine ev_succ ?_
    simp only [slices_Equal_int_int.l0.eq_2]
    exact ev_neg (by omega) (ev_now (by simp))
  | cons c s ih =>
    intro t pre q e e' h1 h2
    cases t with
    | nil => simp at h2
    | cons d t =>
    have h := len_mid e
    have h' := len_mid e'
    refine ev_succ ?_
    have r1 := rd_mid' e
    have r2 := rd_mid' e'
    rw [← h1] at r2
    simp only [slices_Equal_int_int.l0.eq_2, r1, r2]
    refine ev_pos (by omega) (ev_pos (by omega) (ev_pos (by omega) (ev_pos (by omega) ?_)))
    by_cases hc : c = d
    · refine ev_pos hc ?_
      rw [wrap_snoc (pre := pre) (c := c) (by omega)]
      refine ev_eq (ih t (pre ++ [c]) (q ++ [d]) (snoc_mid e) (snoc_mid e') (by simp [h1]) (by simpa using h2)) ?_
      simp [hc]
    · exact ev_neg hc (ev_now (by simp [hc]))
theorem equal_ev (a b : List Int) (hl : a.length * 8 ≤ 140737488351232) : Ev (fun k => slices_Equal_int_int.f k a b) (decide (a = b)) := by
  unfold slices_Equal_int_int.f
  by_cases h : a.length = b.length
  · exact ev_pos (by omega) (equal_l a b hl a b [] [] rfl rfl rfl h)
  · refine ev_neg (by omega) (ev_now ?_)
    symm
    exact decide_eq_false (fun e => h (by rw [e]))

/-! ### RecordPlaces -/
theorem spec_rec_l (l : List Int) (hl : l.length ≤ 7) : ∀ (suf pre out : List Int) (m : Int), l = pre ++ suf → out.length ≤ pre.length → Ev (fun k => spec_RecordPlaces.l0 k l out m (pre.length : Int)) (out ++ recGo suf pre.length m, true) := by
  intro suf
  induction suf with
  | nil =>
    intro pre out m e ho
    have h := len_end e
    refine ev_succ ?_
    simp only [spec_RecordPlaces.l0.eq_2]
    exact ev_neg (by omega) (ev_now (by simp [recGo]))
  | cons c suf ih =>
    intro pre out m e ho
    have h := len_mid e
    refine ev_succ ?_
    simp only [spec_RecordPlaces.l0.eq_2, rd_mid' e]
    rw [wrap_snoc (pre := pre) (c := c) (by omega)]
    refine ev_pos (by omega) (ev_pos (by omega) ?_)
    by_cases hc : c > m
    · refine ev_pos hc (ev_pos (by omega) ?_)
      refine ev_eq (ih _ _ _ (snoc_mid e) ?_) ?_
      · simp [ho]
      · simp [recGo, hc]
    · refine ev_neg hc ?_
      refine ev_eq (ih _ _ _ (snoc_mid e) ?_) ?_
      · simp; omega
      · simp [recGo, hc]
theorem spec_record_ev (l : List Int) (hl : l.length ≤ 140737488351232) : Ev (fun k => spec_RecordPlaces.f k l) (recordR l) := by
  unfold spec_RecordPlaces.f recordR
  by_cases ho : isOrd l = true
  · rw [onOrd_pos ho]; exact ev_let (ev_bind (spec_order_ev l hl) (ev_pos ho (spec_rec_l l (ord_len ho).2 l [] [] 0 rfl (by simp))))
  · rw [onOrd_neg ho]; exact ev_let (ev_bind (spec_order_ev l hl) (ev_neg ho (ev_now rfl)))
theorem impl_rec_l (l : List Int) (hl : l.length ≤ 7) : ∀ (suf pre out : List Int) (m : Int), l = pre ++ suf → out.length ≤ pre.length → Ev (fun k => impl_RecordPlaces.l0 k out m l (l.length : Int) (pre.length : Int)) (out ++ recGo suf pre.length m, true) := by
  intro suf
  induction suf with
  | nil =>
    intro pre out m e ho
    have h := len_end e
    refine ev_succ ?_
    simp only [impl_RecordPlaces.l0.eq_2]
    exact ev_neg (by omega) (ev_now (by simp [recGo]))
  | cons c suf ih =>
    intro pre out m e ho
    have h := len_mid e
    refine ev_succ ?_
    simp only [impl_RecordPlaces.l0.eq_2, rd_mid' e]
    rw [wrap_snoc (pre := pre) (c := c) (by omega)]
    refine ev_pos (by omega) (ev_pos (by omega) (ev_pos (by omega) ?_))
    by_cases hc : c > m
    · refine ev_pos hc (ev_pos (by omega) ?_)
      refine ev_eq (ih _ _ _ (snoc_mid e) ?_) ?_
      · simp [ho]
      · simp [recGo, hc]
    · refine ev_neg hc ?_
      refine ev_eq (ih _ _ _ (snoc_mid e) ?_) ?_
      · simp; omega
      · simp [recGo, hc]
theorem impl_record_ev (l : List Int) (hl : l.length ≤ 140737488351232) : Ev (fun k => impl_RecordPlaces.f k l) (recordR l) := by
  unfold impl_RecordPlaces.f recordR
  by_cases ho : isOrd l = true
  · rw [onOrd_pos ho]; exact ev_bind (impl_order_ev l hl) (ev_pos ho (impl_rec_l l (ord_len ho).2 l [] [] 0 rfl (by simp)))
  · rw [onOrd_neg ho]; exact ev_bind (impl_order_ev l hl) (ev_neg ho (ev_now rfl))

theorem most_ev (a b : Int) : Ev (fun _ => spec_l1Most.f a b) (mx a b) := by
  have e : mx a b = if a > b then a else b := by unfold mx; split <;> split <;> omega
  rw [e]
  unfold spec_l1Most.f
  by_cases h : a > b
  · simp only [if_pos h]; exact ev_now rfl
  · simp only [if_neg h]; exact ev_now rfl

/-! ### BlocksOf -/
theorem spec_block_l (l : List Int) (hl : l.length ≤ 7) : ∀ (suf pre out : List Int) (f m : Int), l = pre ++ suf → out.length ≤ pre.length → 0 ≤ f → f ≤ pre.length → Ev (fun k => spec_BlocksOf.l0 k l out f m (pre.length : Int)) (out ++ blockGo suf pre.length f m, true) := by
  intro suf
  induction suf with
  | nil =>
    intro pre out f m e ho h0 h1
    have h := len_end e
    refine ev_succ ?_
    simp only [spec_BlocksOf.l0.eq_2]
    exact ev_neg (by omega) (ev_now (by simp [blockGo]))
  | cons c suf ih =>
    intro pre out f m e ho h0 h1
    have h := len_mid e
    refine ev_succ ?_
    simp only [spec_BlocksOf.l0.eq_2, rd_mid' e]
    have hw : wrap64 ((pre.length : Int) + 1) = (pre.length : Int) + 1 := wrap_of (by omega) (by omega)
    rw [hw]
    refine ev_pos (by omega) (ev_pos (by omega) (ev_bind (most_ev _ _) ?_))
    have hs : (pre.length : Int) + 1 = ((pre ++ [c]).length : Int) := by simp
    by_cases hc : mx m c = (pre.length : Int) + 1
    · refine ev_pos hc (ev_pos (by omega) ?_)
      rw [wrap_of (x := (pre.length : Int) + 1 - f) (by omega) (by omega), hs]
      refine ev_eq (ih _ _ _ _ (snoc_mid e) ?_ ?_ ?_) ?_
      · simp; omega
      · omega
      · omega
      · simp [blockGo, hc]
    · refine ev_neg hc ?_
      rw [hs]
      refine ev_eq (ih _ _ _ _ (snoc_mid e) ?_ ?_ ?_) ?_
      · simp; omega
      · omega
      · simp; omega
      · simp [blockGo, hc]
theorem spec_blocks_ev (l : List Int) (hl : l.length ≤ 140737488351232) : Ev (fun k => spec_BlocksOf.f k l) (blocksR l) := by
  unfold spec_BlocksOf.f blocksR
  by_cases ho : isOrd l = true
  · rw [onOrd_pos ho]; exact ev_let (ev_bind (spec_order_ev l hl) (ev_pos ho (spec_block_l l (ord_len ho).2 l [] [] 0 0 rfl (by simp) (by omega) (by simp))))
  · rw [onOrd_neg ho]; exact ev_let (ev_bind (spec_order_ev l hl) (ev_neg ho (ev_now rfl)))
theorem impl_block_l (l : List Int) (hl : l.length ≤ 7) : ∀ (suf pre out : List Int) (f m : Int), l = pre ++ suf → out.length ≤ pre.length → 0 ≤ f → f ≤ pre.length → Ev (fun k => impl_BlocksOf.l0 k out f m l (l.length : Int) (pre.length : Int)) (out ++ blockGo suf pre.length f m, true) := by
  intro suf
  induction suf with
  | nil =>
    intro pre out f m e ho h0 h1
    have h := len_end e
    refine ev_succ ?_
    simp only [impl_BlocksOf.l0.eq_2]
    exact ev_neg (by omega) (ev_now (by simp [blockGo]))
  | cons c suf ih =>
    intro pre out f m e ho h0 h1
    have h := len_mid e
    refine ev_succ ?_
    simp only [impl_BlocksOf.l0.eq_2, rd_mid' e]
    have hw : wrap64 ((pre.length : Int) + 1) = (pre.length : Int) + 1 := wrap_of (by omega) (by omega)
    rw [hw]
    refine ev_pos (by omega) (ev_pos (by omega) (ev_pos (by omega) ?_))
    have hs : (pre.length : Int) + 1 = ((pre ++ [c]).length : Int) := by simp
    by_cases hc : mx m c = (pre.length : Int) + 1
    · refine ev_pos hc (ev_pos (by omega) ?_)
      rw [wrap_of (x := (pre.length : Int) + 1 - f) (by omega) (by omega), hs]
      refine ev_eq (ih _ _ _ _ (snoc_mid e) ?_ ?_ ?_) ?_
      · simp; omega
      · omega
      · omega
      · simp [blockGo, hc]
    · refine ev_neg hc ?_
      rw [hs]
      refine ev_eq (ih _ _ _ _ (snoc_mid e) ?_ ?_ ?_) ?_
      · simp; omega
      · omega
      · simp; omega
      · simp [blockGo, hc]
theorem impl_blocks_ev (l : List Int) (hl : l.length ≤ 140737488351232) : Ev (fun k => impl_BlocksOf.f k l) (blocksR l) := by
  unfold impl_BlocksOf.f blocksR
  by_cases ho : isOrd l = true
  · rw [onOrd_pos ho]; exact ev_bind (impl_order_ev l hl) (ev_pos ho (impl_block_l l (ord_len ho).2 l [] [] 0 0 rfl (by simp) (by omega) (by simp)))
  · rw [onOrd_neg ho]; exact ev_bind (impl_order_ev l hl) (ev_neg ho (ev_now rfl))

/-! ### SweptFrom -/
def swB (a c : List Int) : Bool := decide (sweepL c = a)
def swR (a : List Int) : List (List Int) × Bool := if isOrd a = true then ((ordersL a.length).filter (swB a), true) else ([], false)
theorem sf_impl_g (a c : List Int) (hc : isOrd c = true) : Ev (fun k => impl_SweptFrom.g k a c) (swB a c) := by
  unfold impl_SweptFrom.g
  have hs := sweepL_length hc
  exact ev_bind (impl_sweep_ev c hc) (equal_ev (sweepL c) a (by omega))
theorem sf_impl_ev (a : List Int) (ha : a.length ≤ 140737488351232) : Ev (fun k => impl_SweptFrom.f k a) (swR a) := by
  unfold impl_SweptFrom.f
  refine ev_bind (impl_order_ev a ha) ?_
  by_cases h : isOrd a = true
  · have hl := ord_len h
    have hf := fac_le (n := a.length) hl.2
    have hp := fac_pos a.length
    have hlen := ordersL_len a.length
    refine ev_pos h (ev_bind (impl_orders_ev a.length hl.2) (ev_pos ⟨by omega, by omega⟩ (ev_bind (keepM_ev (g := fun k => impl_SweptFrom.g k a) (B := swB a) (ordersL a.length) (fun c hc => sf_impl_g a c (ordersL_ord hl.1 hl.2 hc))) (ev_now ?_))))
    unfold swR; rw [if_pos h]
  · exact ev_neg h (ev_now (by unfold swR; rw [if_neg h]))
theorem sf_spec_l (a : List Int) (h : isOrd a = true) : ∀ (suf pre out : List (List Int)), ordersL a.length = pre ++ suf → out.length ≤ pre.length → Ev (fun k => spec_SweptFrom.l0 k a out (ordersL a.length) (pre.length : Int)) (out ++ suf.filter (swB a), true) := by
  have hl := ord_len h
  have hf := fac_le (n := a.length) hl.2
  have hlen := ordersL_len a.length
  intro suf
  induction suf with
  | nil =>
    intro pre out e ho
    have hh := len_end e
    refine ev_succ ?_
    simp only [spec_SweptFrom.l0.eq_2]
    exact ev_neg (by omega) (ev_now (by simp))
  | cons c suf ih =>
    intro pre out e ho
    have hh := len_mid e
    have hc := ordersL_ord hl.1 hl.2 (c := c) (by rw [e]; simp)
    have hs := sweepL_length hc
    have hrd : rd_L2 (ordersL a.length) (pre.length : Int) = c := by rw [e]; simp [rd_L2]
    refine ev_succ ?_
    simp only [spec_SweptFrom.l0.eq_2, hrd]
    rw [wrap_snoc (pre := pre) (c := c) (by omega)]
    refine ev_pos (by omega) (ev_pos (by omega) (ev_bind (spec_sweep_ev c hc) (ev_bind (same_ev (sweepL c) a (by omega)) ?_)))
    by_cases hq : sweepL c = a
    · refine ev_pos (decide_eq_true hq) (ev_pos (by omega) (ev_eq (ih _ _ (snoc_mid e) (by simp; omega)) ?_))
      rw [List.filter_cons, if_pos (show swB a c = true from decide_eq_true hq)]; simp
    · refine ev_neg (by simpa using hq) (ev_eq (ih _ _ (snoc_mid e) (by simp; omega)) ?_)
      rw [List.filter_cons, if_neg (show ¬ swB a c = true by simpa [swB] using hq)]
theorem sf_spec_ev (a : List Int) (ha : a.length ≤ 140737488351232) : Ev (fun k => spec_SweptFrom.f k a) (swR a) := by
  unfold spec_SweptFrom.f
  refine ev_let (ev_bind (spec_order_ev a ha) ?_)
  by_cases h : isOrd a = true
  · refine ev_pos h (ev_bind (spec_orders_ev a.length (ord_len h).2) (ev_eq (sf_spec_l a h (ordersL a.length) [] [] rfl (Nat.le_refl _)) ?_))
    unfold swR; rw [if_pos h]; rfl
  · exact ev_neg h (ev_now (by unfold swR; rw [if_neg h]))
theorem swR_ok (a : List Int) : (swR a).1.length ≤ 1048576 ∧ (swR a).1.all (fun xs => decide (xs.length ≤ 1048576)) = true := by
  unfold swR
  split
  · rename_i h
    have hl := ord_len h
    have hf := fac_le (n := a.length) hl.2
    have hlen := ordersL_len a.length
    have := List.length_filter_le (swB a) (ordersL a.length)
    refine ⟨by simp only; omega, List.all_eq_true.2 (fun xs hx => ?_)⟩
    have := ordersL_mem (List.mem_filter.1 hx).1
    exact decide_eq_true (by omega)
  · simp

/-! ### SweepOrder -/
def soR (a : List Int) : List Int × Bool := onOrd a [] (sweepL a)
theorem so_impl_ev (a : List Int) (ha : a.length ≤ 140737488351232) : Ev (fun k => impl_SweepOrder.f k a) (soR a) := by
  unfold impl_SweepOrder.f soR
  by_cases h1 : isOrd a = true
  · rw [onOrd_pos h1]; exact ev_bind (impl_order_ev a ha) (ev_pos h1 (ev_bind (impl_sweep_ev a h1) (ev_now rfl)))
  · rw [onOrd_neg h1]; exact ev_bind (impl_order_ev a ha) (ev_neg h1 (ev_now rfl))

/-! ### what FnSweeps draws -/
theorem one_ok {l : List Int} (hl : byteL l) (s1 s2 n : Int) (h0 : 0 ≤ s1) (h1 : s1 ≤ 1000000) (hn : 1 ≤ n) (hn2 : n ≤ 200) : ∃ b s1' s2', spec_l1Cur_one.f l s1 s2 n = some (b, s1', s2') ∧ s1 ≤ s1' ∧ s1' ≤ s1 + 1 := by
  obtain ⟨b, s3, s4, hb, _, _, hs, hs'⟩ := pick_any hl s1 s2 n h0 h1 hn hn2
  exact ⟨b == 0, s3, s4, by unfold spec_l1Cur_one.f; rw [hb]; rfl, hs, hs'⟩
theorem among2_ok {l : List Int} (hl : byteL l) (s1 s2 : Int) (xs : List (List Int)) (h0 : 0 ≤ s1) (h1 : s1 ≤ 1000000) (hn : 1 ≤ xs.length) (hn2 : xs.length ≤ 200) (h8 : ∀ x ∈ xs, x.length ≤ 8) : ∃ x s1' s2', spec_l1Cur_among2.f l s1 s2 xs = some (x, s1', s2') ∧ x.length ≤ 8 := by
  obtain ⟨b, s3, s4, hb, hb0, hb1, hs, hs'⟩ := pick_any hl s1 s2 (xs.length : Int) h0 h1 (by omega) (by omega)
  have hi : b.toNat < xs.length := by omega
  have e : rd_L2 xs b = xs[b.toNat] := by simp [rd_L2, List.getD_eq_getElem?_getD, List.getElem?_eq_getElem hi]
  have hx := h8 _ (List.getElem_mem hi)
  have how := own_ok (xs[b.toNat]) (by omega)
  refine ⟨xs[b.toNat], s3, s4, ?_, hx⟩
  unfold spec_l1Cur_among2.f
  rw [hb]
  simp only [Option.bind_some]
  rw [if_pos hb0, if_pos hb1, e, how]; rfl
theorem drawCS_ok {l : List Int} (hl : byteL l) : ∃ v, Ev (fun k => spec_DrawCountSweeps.f k l) v ∧ v.length ≤ 8 := by
  obtain ⟨b, s3, s4, hb, hs, hs'⟩ := one_ok hl 0 0 4 (by omega) (by omega) (by omega) (by omega)
  cases b with
  | true =>
    obtain ⟨x, s5, s6, hx, hx8⟩ := among2_ok hl s3 s4 [([2, 3, 1] : List Int), ([2, 3, 4, 1] : List Int), ([2, 3, 4, 5, 6, 7, 1] : List Int), ([1] : List Int), ([3, 2, 4, 1] : List Int), ([1, 2, 3] : List Int)] (by omega) (by omega) (by decide) (by decide) (by decide)
    refine ⟨x, ?_, hx8⟩
    unfold spec_DrawCountSweeps.f
    rw [hb]
    refine ev_let (ev_pos rfl ?_)
    simp only [hx]
    exact ev_let (ev_now rfl)
  | false =>
    obtain ⟨v, hv, hv8, _⟩ := order_ok hl s3 s4 (by omega) (by omega)
    refine ⟨v.1, ?_, hv8⟩
    unfold spec_DrawCountSweeps.f
    rw [hb]
    exact ev_let (ev_neg (by simp) (ev_bind hv (ev_now rfl)))
theorem drawIO_ok {l : List Int} (hl : byteL l) : ∃ v, Ev (fun k => spec_DrawIsOrder.f k l) v ∧ v.length ≤ 8 := by
  obtain ⟨v, hv, hv8, _⟩ := order_ok hl 0 0 (by omega) (by omega)
  refine ⟨v.1, ?_, hv8⟩
  unfold spec_DrawIsOrder.f
  exact ev_bind hv (ev_now rfl)
theorem drawRP_ok {l : List Int} (hl : byteL l) : ∃ v, Ev (fun k => spec_DrawRecordPlaces.f k l) v ∧ v.length ≤ 8 := by
  obtain ⟨v, hv, hv8⟩ := drawIO_ok hl
  refine ⟨v, ?_, hv8⟩
  unfold spec_DrawRecordPlaces.f
  exact ev_bind hv (ev_now rfl)
theorem drawBO_ok {l : List Int} (hl : byteL l) : ∃ v, Ev (fun k => spec_DrawBlocksOf.f k l) v ∧ v.length ≤ 8 := by
  obtain ⟨b, s3, s4, hb, hs, hs'⟩ := one_ok hl 0 0 4 (by omega) (by omega) (by omega) (by omega)
  cases b with
  | true =>
    obtain ⟨x, s5, s6, hx, hx8⟩ := among2_ok hl s3 s4 [([2, 1, 4, 3] : List Int), ([1, 3, 2, 4] : List Int), ([3, 1, 2, 5, 4] : List Int), ([1, 2] : List Int), ([4, 3, 2, 1] : List Int)] (by omega) (by omega) (by decide) (by decide) (by decide)
    refine ⟨x, ?_, hx8⟩
    unfold spec_DrawBlocksOf.f
    rw [hb]
    refine ev_let (ev_pos rfl ?_)
    simp only [hx]
    exact ev_let (ev_now rfl)
  | false =>
    obtain ⟨v, hv, hv8, _⟩ := order_ok hl s3 s4 (by omega) (by omega)
    refine ⟨v.1, ?_, hv8⟩
    unfold spec_DrawBlocksOf.f
    rw [hb]
    exact ev_let (ev_neg (by simp) (ev_bind hv (ev_now rfl)))
theorem drawSF_j {l : List Int} (hl : byteL l) (x : List Int) (s1 s2 : Int) (hx : x.length ≤ 8) (h0 : 0 ≤ s1) (h1 : s1 ≤ 900000) : ∃ y, Ev (fun k => spec_DrawSweptFrom.j0 k x l s1 s2) y ∧ y.length ≤ 14 := by
  obtain ⟨b, s3, s4, hb, hs, hs'⟩ := one_ok hl s1 s2 2 h0 (by omega) (by omega) (by omega)
  by_cases ho : isOrd x = true
  · cases b with
    | true =>
      refine ⟨sweepL x, ev_succ ?_, sweepL_length ho⟩
      simp only [spec_DrawSweptFrom.j0.eq_2, hb]
      exact ev_bind (spec_order_ev x (by omega)) (ev_pos ho (ev_let (ev_pos rfl (ev_bind (spec_sweep_ev x ho) (ev_now rfl)))))
    | false =>
      refine ⟨x, ev_succ ?_, by omega⟩
      simp only [spec_DrawSweptFrom.j0.eq_2, hb]
      exact ev_bind (spec_order_ev x (by omega)) (ev_pos ho (ev_let (ev_neg (by simp) (ev_now rfl))))
  · refine ⟨x, ev_succ ?_, by omega⟩
    simp only [spec_DrawSweptFrom.j0.eq_2]
    exact ev_bind (spec_order_ev x (by omega)) (ev_neg ho (ev_now rfl))
theorem drawSF_ok {l : List Int} (hl : byteL l) : ∃ y, Ev (fun k => spec_DrawSweptFrom.f k l) y ∧ y.length ≤ 14 := by
  obtain ⟨v, hv, hv8, hv0, hv1⟩ := order_ok hl 0 0 (by omega) (by omega)
  by_cases h : (v.1.length : Int) > 5
  · obtain ⟨y, hy, hy8⟩ := drawSF_j hl [2, 1, 3, 4] v.2.1 v.2.2 (by decide) hv0 (by omega)
    refine ⟨y, ?_, hy8⟩
    unfold spec_DrawSweptFrom.f
    exact ev_bind hv (ev_pos h hy)
  · obtain ⟨y, hy, hy8⟩ := drawSF_j hl v.1 v.2.1 v.2.2 hv8 hv0 (by omega)
    refine ⟨y, ?_, hy8⟩
    unfold spec_DrawSweptFrom.f
    exact ev_bind hv (ev_neg h hy)

/-! ### slices.IsSorted -/
theorem less_ev (a b : Int) : Ev (fun _ => cmp_Less_int.f a b) (decide (a < b)) := ev_const (by simp [cmp_Less_int.f, cmp_isNaN_int.f])
theorem sorted_l (l : List Int) (hl : l.length ≤ 1000) : ∀ (p suf : List Int), l = p.reverse ++ suf → p ≠ [] → Ev (fun k => slices_IsSorted_int_int.l0 k l ((p.length : Int) - 1)) (srtR p) := by
  intro p
  induction p with
  | nil => intro suf e hp; exact absurd rfl hp
  | cons a p ih =>
    intro suf e _
    have hll : l.length = p.length + 1 + suf.length := by rw [e]; simp; omega
    have em : l = p.reverse ++ a :: suf := by rw [e]; simp
    have ra : rd l (p.length : Int) = a := by have := rd_mid' em; simpa using this
    have e1 : (((a :: p).length : Nat) : Int) - 1 = (p.length : Int) := by simp
    rw [e1]
    refine ev_succ ?_
    simp only [slices_IsSorted_int_int.l0.eq_2, ra]
    cases p with
    | nil => exact ev_neg (by simp) (ev_now (by simp [srtR]))
    | cons b t =>
      have em2 : l = t.reverse ++ b :: (a :: suf) := by rw [em]; simp
      have rb : rd l (t.length : Int) = b := by have := rd_mid' em2; simpa using this
      rw [wrap_of (by omega) (by omega), show (((b :: t).length : Nat) : Int) - 1 = (t.length : Int) by simp, rb]
      have hlb : ((b :: t).length : Int) = (t.length : Int) + 1 := by simp
      refine ev_pos (by omega) (ev_pos (by omega) (ev_pos (by omega) (ev_pos (by omega) (ev_pos (by omega) (ev_bind (less_ev a b) ?_)))))
      by_cases h : a < b
      · exact ev_pos (by simpa using h) (ev_now (by simp [srtR, h]))
      · refine ev_neg (by simpa using h) (ev_eq ?_ (show srtR (b :: t) = srtR (a :: b :: t) by simp [srtR, h]))
        have := ih (a :: suf) em (by simp)
        rwa [show (((b :: t).length : Nat) : Int) - 1 = (t.length : Int) by simp] at this
theorem isSorted_ev (l : List Int) (hl : l.length ≤ 1000) : Ev (fun k => impl_isSorted.f k l) (srtR l.reverse) := by
  unfold impl_isSorted.f slices_IsSorted_int_int.f
  rw [wrap_of (by omega) (by omega)]
  refine ev_bind (a := srtR l.reverse) ?_ (ev_now rfl)
  cases hl2 : l.reverse with
  | nil =>
    have : l = [] := by simpa using hl2
    subst this
    refine ev_succ ?_
    simp only [slices_IsSorted_int_int.l0.eq_2]
    exact ev_neg (by simp) (ev_now (by simp [srtR]))
  | cons a t =>
    have e : l = (a :: t).reverse ++ [] := by rw [← hl2]; simp
    have := sorted_l l hl (a :: t) [] e (by simp)
    rwa [show ((a :: t).length : Int) = (l.length : Int) by rw [← hl2]; simp] at this

/-! ### laws.rInts, laws.rLists -/
theorem rInts_l (a : List Int) (ha : a.length ≤ 1048576) : ∀ (suf pre : List Int), a = pre ++ suf → Ev (fun k => laws_rInts.l0 k a a (pre.length : Int)) true := by
  intro suf
  induction suf with
  | nil =>
    intro pre e
    have h := len_end e
    refine ev_succ ?_
    simp only [laws_rInts.l0.eq_2]
    exact ev_neg (by omega) (ev_now rfl)
  | cons c suf ih =>
    intro pre e
    have h := len_mid e
    refine ev_succ ?_
    simp only [laws_rInts.l0.eq_2]
    rw [wrap_snoc (pre := pre) (c := c) (by omega)]
    exact ev_pos (by omega) (ev_pos (by omega) (ev_pos (by omega) (ev_pos trivial (ih _ (snoc_mid e)))))
theorem rInts_ev (a : List Int) (ha : a.length ≤ 1048576) : Ev (fun k => laws_rInts.f k a a) true := by
  unfold laws_rInts.f
  exact ev_pos rfl (rInts_l a ha a [] rfl)
theorem rLists_l (a : List (List Int)) (ha : a.length ≤ 1048576) (hr : ∀ x ∈ a, x.length ≤ 1048576) : ∀ (suf pre : List (List Int)), a = pre ++ suf → Ev (fun k => laws_rLists.l0 k a a (pre.length : Int)) true := by
  intro suf
  induction suf with
  | nil =>
    intro pre e
    have h := len_end e
    refine ev_succ ?_
    simp only [laws_rLists.l0.eq_2]
    exact ev_neg (by omega) (ev_now rfl)
  | cons c suf ih =>
    intro pre e
    have h := len_mid e
    have hrd : rd_L2 a (pre.length : Int) = c := by rw [e]; simp [rd_L2]
    refine ev_succ ?_
    simp only [laws_rLists.l0.eq_2, hrd]
    rw [wrap_snoc (pre := pre) (c := c) (by omega)]
    exact ev_pos (by omega) (ev_pos (by omega) (ev_pos (by omega) (ev_bind (rInts_ev c (hr c (by rw [e]; simp))) (ev_pos rfl (ih _ (snoc_mid e))))))
theorem rLists_ev (a : List (List Int)) (ha : a.length ≤ 1048576) (hr : ∀ x ∈ a, x.length ≤ 1048576) : Ev (fun k => laws_rLists.f k a a) true := by
  unfold laws_rLists.f
  exact ev_pos rfl (rLists_l a ha hr a [] rfl)

/-! ### CountSweeps -/
def swp (l : List Int) : List Int := runGo (impl_sweepWord.goG l [] []) l [] []
def cntGo : Nat → List Int → Option Nat
  | 0, _ => none
  | f + 1, l => if srtR l.reverse = true then some 0 else (cntGo f (swp l)).map (fun n => n + 1)
def okS (l s : List Int) : Bool := isOrd s && (decide (l = iota 1 l.length) == srtR l.reverse) && s.length == l.length && (srtR l.reverse || decide (invC s < invC l))
def okB (l : List Int) : Bool := okS l (swp l)
theorem ok1 : (ordsN 1).all okB = true := by decide +kernel
theorem ok2 : (ordsN 2).all okB = true := by decide +kernel
theorem ok3 : (ordsN 3).all okB = true := by decide +kernel
theorem ok4 : (ordsN 4).all okB = true := by decide +kernel
theorem ok5 : (ordsN 5).all okB = true := by decide +kernel
theorem ok6 : (ordsN 6).all okB = true := by decide +kernel
theorem ok7_1 : ((permsN 6 [2, 3, 4, 5, 6, 7]).map (fun s => (1 : Int) :: s)).all okB = true := by decide +kernel
theorem ok7_2 : ((permsN 6 [1, 3, 4, 5, 6, 7]).map (fun s => (2 : Int) :: s)).all okB = true := by decide +kernel
theorem ok7_3 : ((permsN 6 [1, 2, 4, 5, 6, 7]).map (fun s => (3 : Int) :: s)).all okB = true := by decide +kernel
theorem ok7_4 : ((permsN 6 [1, 2, 3, 5, 6, 7]).map (fun s => (4 : Int) :: s)).all okB = true := by decide +kernel
theorem ok7_5 : ((permsN 6 [1, 2, 3, 4, 6, 7]).map (fun s => (5 : Int) :: s)).all okB = true := by decide +kernel
theorem ok7_6 : ((permsN 6 [1, 2, 3, 4, 5, 7]).map (fun s => (6 : Int) :: s)).all okB = true := by decide +kernel
theorem ok7_7 : ((permsN 6 [1, 2, 3, 4, 5, 6]).map (fun s => (7 : Int) :: s)).all okB = true := by decide +kernel
theorem ok7 : (ordsN 7).all okB = true := ord7_all okB ok7_1 ok7_2 ok7_3 ok7_4 ok7_5 ok7_6 ok7_7
theorem ok0 {l : List Int} (h : isOrd l = true) : isOrd (swp l) = true ∧ decide (l = iota 1 l.length) = srtR l.reverse ∧ (swp l).length = l.length ∧ (srtR l.reverse = true ∨ invC (swp l) < invC l) := by
  have := ord_all okB ok1 ok2 ok3 ok4 ok5 ok6 ok7 h
  unfold okB okS at this
  rw [Bool.and_eq_true, Bool.and_eq_true, Bool.and_eq_true, Bool.or_eq_true, beq_iff_eq, beq_iff_eq, decide_eq_true_eq] at this
  exact ⟨this.1.1.1, this.1.1.2, this.1.2, this.2⟩
theorem cnt_some : ∀ (f : Nat) (l : List Int), isOrd l = true → invC l < f → ∃ c, cntGo f l = some c := by
  intro f
  induction f with
  | zero => intro l _ h; omega
  | succ f ih =>
    intro l ho h
    obtain ⟨o1, _, _, o4⟩ := ok0 ho
    rw [cntGo]
    by_cases hs : srtR l.reverse = true
    · exact ⟨0, by rw [if_pos hs]⟩
    · rcases o4 with o4 | o4
      · exact absurd o4 hs
      · obtain ⟨c, hc⟩ := ih (swp l) o1 (by omega)
        exact ⟨c + 1, by rw [if_neg hs, hc]; rfl⟩
theorem ok {l : List Int} (h : isOrd l = true) : isOrd (sweepL l) = true ∧ decide (l = iota 1 l.length) = srtR l.reverse ∧ (sweepL l).length = l.length ∧ ∃ c, cntGo 60 l = some c := by
  have e : sweepL l = swp l := by
    unfold sweepL runL
    rw [(swW_ok h).1]; rfl
  obtain ⟨o1, o2, o3, _⟩ := ok0 h
  rw [e]
  refine ⟨o1, o2, o3, cnt_some 60 l h ?_⟩
  have h1 := invC_le l
  have h7 := (ord_len h).2
  have : l.length * l.length ≤ 7 * 7 := Nat.mul_le_mul h7 h7
  omega
theorem swp_eq {l : List Int} (h : isOrd l = true) : sweepL l = swp l := by
  unfold sweepL runL
  rw [(swW_ok h).1]; rfl
def cntR (l : List Int) : Int × Bool := onOrd l 0 (((cntGo 60 l).getD 0 : Nat) : Int)
theorem cs_impl_l : ∀ (f : Nat) (l : List Int) (acc c : Nat), isOrd l = true → cntGo f l = some c → acc + f ≤ 100 → Ev (fun k => impl_CountSweeps.l0 k (acc : Int) l) (((acc + c : Nat) : Int), true) := by
  intro f
  induction f with
  | zero => intro l acc c _ h; cases h
  | succ f ih =>
    intro l acc c ho hc ha
    have h7 := (ord_len ho).2
    refine ev_succ ?_
    simp only [impl_CountSweeps.l0.eq_2]
    refine ev_bind (isSorted_ev l (by omega)) ?_
    rw [cntGo] at hc
    by_cases hs : srtR l.reverse = true
    · rw [if_pos hs] at hc
      obtain rfl := Option.some.inj hc
      exact ev_pos hs (ev_now rfl)
    · rw [if_neg hs] at hc
      obtain ⟨c', hc', rfl⟩ := Option.map_eq_some_iff.1 hc
      refine ev_neg hs (ev_bind (impl_sweep_ev l ho) ?_)
      rw [wrap_of (by omega) (by omega), show (acc : Int) + 1 = ((acc + 1 : Nat) : Int) by omega, swp_eq ho]
      refine ev_eq (ih (swp l) (acc + 1) c' (by have := (ok ho).1; rwa [swp_eq ho] at this) hc' (by omega)) ?_
      rw [show acc + 1 + c' = acc + (c' + 1) by omega]
theorem cs_spec_l (x : List Int) : ∀ (f : Nat) (l : List Int) (acc c : Nat), x.length = l.length → isOrd l = true → cntGo f l = some c → acc + f ≤ 100 → Ev (fun k => spec_CountSweeps.l0 k x (acc : Int) l) (((acc + c : Nat) : Int), true) := by
  intro f
  induction f with
  | zero => intro l acc c _ _ h; cases h
  | succ f ih =>
    intro l acc c hx ho hc ha
    have h7 := (ord_len ho).2
    obtain ⟨o1, o2, o3, o4⟩ := ok ho
    refine ev_succ ?_
    simp only [spec_CountSweeps.l0.eq_2]
    refine ev_bind (spec_sorted_ev x.length (by omega)) (ev_bind (same_ev l _ (by omega)) ?_)
    rw [cntGo] at hc
    rw [hx, o2]
    by_cases hs : srtR l.reverse = true
    · rw [if_pos hs] at hc
      obtain rfl := Option.some.inj hc
      exact ev_pos hs (ev_now rfl)
    · rw [if_neg hs] at hc
      obtain ⟨c', hc', rfl⟩ := Option.map_eq_some_iff.1 hc
      refine ev_neg hs (ev_bind (spec_sweep_ev l ho) ?_)
      rw [wrap_of (by omega) (by omega), show (acc : Int) + 1 = ((acc + 1 : Nat) : Int) by omega]
      rw [swp_eq ho] at o1 o3 ⊢
      refine ev_eq (ih (swp l) (acc + 1) c' (by omega) o1 hc' (by omega)) ?_
      rw [show acc + 1 + c' = acc + (c' + 1) by omega]
theorem cs_spec_ev (a : List Int) (ha : a.length ≤ 140737488351232) : Ev (fun k => spec_CountSweeps.f k a) (cntR a) := by
  unfold spec_CountSweeps.f cntR
  by_cases h1 : isOrd a = true
  · rw [onOrd_pos h1]
    obtain ⟨o1, o2, o3, c, hc⟩ := ok h1
    refine ev_bind (spec_order_ev a ha) (ev_pos h1 (ev_bind (own_ev a (by have := (ord_len h1).2; omega)) ?_))
    have := cs_spec_l a 60 a 0 c rfl h1 hc (by omega)
    rw [hc]; simpa using this
  · rw [onOrd_neg h1]; exact ev_bind (spec_order_ev a ha) (ev_neg h1 (ev_now rfl))
theorem cs_impl_ev (a : List Int) (ha : a.length ≤ 140737488351232) : Ev (fun k => impl_CountSweeps.f k a) (cntR a) := by
  unfold impl_CountSweeps.f cntR
  by_cases h1 : isOrd a = true
  · rw [onOrd_pos h1]
    obtain ⟨o1, o2, o3, c, hc⟩ := ok h1
    refine ev_bind (impl_order_ev a ha) (ev_pos h1 ?_)
    have := cs_impl_l 60 a 0 c h1 hc (by omega)
    rw [hc]; simpa using this
  · rw [onOrd_neg h1]; exact ev_bind (impl_order_ev a ha) (ev_neg h1 (ev_now rfl))

/-! ### FnSweeps: the loops of the law -/
theorem rSorted_l (l : List Int) (hl : l.length ≤ 1000) : ∀ (suf pre : List Int), l = pre ++ suf → Ev (fun k => laws_rSorted.l0 k l (pre.length : Int)) (decide (suf = iota ((pre.length : Int) + 1) suf.length)) := by
  intro suf
  induction suf with
  | nil =>
    intro pre e
    have h := len_end e
    refine ev_succ ?_
    simp only [laws_rSorted.l0.eq_2]
    exact ev_neg (by omega) (ev_now (by simp [iota]))
  | cons c suf ih =>
    intro pre e
    have h := len_mid e
    refine ev_succ ?_
    simp only [laws_rSorted.l0.eq_2, rd_mid' e]
    rw [wrap_of (x := (pre.length : Int) + 1) (by omega) (by omega)]
    refine ev_pos (by omega) (ev_pos (by omega) ?_)
    by_cases hc : c = (pre.length : Int) + 1
    · have := ih (pre ++ [c]) (snoc_mid e)
      rw [show (((pre ++ [c]).length : Nat) : Int) = (pre.length : Int) + 1 by simp] at this
      refine ev_pos hc (ev_eq this ?_)
      simp [iota, hc]
    · refine ev_neg hc (ev_now ?_)
      simp [iota, hc]
theorem rSorted_ev (l : List Int) (hl : l.length ≤ 1000) : Ev (fun k => laws_rSorted.f k l) (decide (l = iota 1 l.length)) := by
  unfold laws_rSorted.f
  have := rSorted_l l hl l [] rfl
  simpa using this

/-! ### what FnSweeps asks besides: at each order, by the kernel -/
def okX (l : List Int) : Bool := (match (recordR l).1 with | [] => false | c :: _ => c == 0) && chkB l (blocksR l).1 0 && ((cntGo 60 l).getD 0 == 0 || decide ((cntGo 60 l).getD 0 < l.length))
theorem okx1 : (ordsN 1).all okX = true := by decide +kernel
theorem okx2 : (ordsN 2).all okX = true := by decide +kernel
theorem okx3 : (ordsN 3).all okX = true := by decide +kernel
theorem okx4 : (ordsN 4).all okX = true := by decide +kernel
theorem okx5 : (ordsN 5).all okX = true := by decide +kernel
theorem okx6 : (ordsN 6).all okX = true := by decide +kernel
theorem okx7_1 : ((permsN 6 [2, 3, 4, 5, 6, 7]).map (fun s => (1 : Int) :: s)).all okX = true := by decide +kernel
theorem okx7_2 : ((permsN 6 [1, 3, 4, 5, 6, 7]).map (fun s => (2 : Int) :: s)).all okX = true := by decide +kernel
theorem okx7_3 : ((permsN 6 [1, 2, 4, 5, 6, 7]).map (fun s => (3 : Int) :: s)).all okX = true := by decide +kernel
theorem okx7_4 : ((permsN 6 [1, 2, 3, 5, 6, 7]).map (fun s => (4 : Int) :: s)).all okX = true := by decide +kernel
theorem okx7_5 : ((permsN 6 [1, 2, 3, 4, 6, 7]).map (fun s => (5 : Int) :: s)).all okX = true := by decide +kernel
theorem okx7_6 : ((permsN 6 [1, 2, 3, 4, 5, 7]).map (fun s => (6 : Int) :: s)).all okX = true := by decide +kernel
theorem okx7_7 : ((permsN 6 [1, 2, 3, 4, 5, 6]).map (fun s => (7 : Int) :: s)).all okX = true := by decide +kernel
theorem okx7 : (ordsN 7).all okX = true := ord7_all okX okx7_1 okx7_2 okx7_3 okx7_4 okx7_5 okx7_6 okx7_7
theorem okx {l : List Int} (h : isOrd l = true) : okX l = true := ord_all okX okx1 okx2 okx3 okx4 okx5 okx6 okx7 h

/-! ### FnSweeps: what the law asks -/
def nwI : List Int → Nat → List Int
  | l, 0 => l
  | l, i + 1 => nwI (sweepL l) i
theorem nwI_succ : ∀ (i : Nat) (l : List Int), nwI l (i + 1) = sweepL (nwI l i) := by
  intro i
  induction i with
  | zero => intro l; rfl
  | succ i ih => intro l; show nwI (sweepL l) (i + 1) = _; rw [ih]; rfl
theorem cnt_chain : ∀ (f : Nat) (l : List Int) (c : Nat), isOrd l = true → cntGo f l = some c → (∀ i, i ≤ c → isOrd (nwI l i) = true) ∧ (∀ i, i < c → srtR (nwI l i).reverse = false) ∧ srtR (nwI l c).reverse = true := by
  intro f
  induction f with
  | zero => intro l c _ h; simp [cntGo] at h
  | succ f ih =>
    intro l c h hc
    simp only [cntGo] at hc
    by_cases hs : srtR l.reverse = true
    · rw [if_pos hs] at hc
      obtain rfl := Option.some.inj hc
      refine ⟨fun i hi => ?_, fun i hi => by omega, hs⟩
      obtain rfl : i = 0 := by omega
      exact h
    · rw [if_neg hs] at hc
      obtain ⟨m, hm, rfl⟩ := Option.map_eq_some_iff.1 hc
      rw [← swp_eq h] at hm
      obtain ⟨h1, h2, h3⟩ := ih (sweepL l) m (ok h).1 hm
      refine ⟨fun i hi => ?_, fun i hi => ?_, h3⟩
      · cases i with
        | zero => exact h
        | succ i => exact h1 i (by omega)
      · cases i with
        | zero => exact Bool.eq_false_iff.2 hs
        | succ i => exact h2 i (by omega)
theorem chk_len (z : List Int) : ∀ (bl : List Int) (a : Int), chkB z bl a = true → True := fun _ _ _ => trivial

theorem recordR_len (x : List Int) : (recordR x).1.length ≤ x.length := by
  by_cases h : isOrd x = true
  · have hq : recordR x = (recGo x 0 0, true) := by unfold recordR; rw [onOrd_pos h]
    rw [hq]; exact recGo_length x 0 0
  · have hq : recordR x = ([], false) := by unfold recordR; rw [onOrd_neg h]
    rw [hq]; simp
theorem blocksR_len (x : List Int) : (blocksR x).1.length ≤ x.length := by
  by_cases h : isOrd x = true
  · have hq : blocksR x = (blockGo x 0 0 0, true) := by unfold blocksR; rw [onOrd_pos h]
    rw [hq]; exact blockGo_length x 0 0 0
  · have hq : blocksR x = ([], false) := by unfold blocksR; rw [onOrd_neg h]
    rw [hq]; simp
theorem io_ev (l : List Int) (h : l.length ≤ 140737488351232) : Ev (fun k => impl_IsOrder.f k l) (isOrd l) := by
  unfold impl_IsOrder.f
  exact ev_bind (impl_order_ev l h) (ev_now rfl)
theorem FnSweeps : laws_FnSweeps.Pure := by
  intro l hm ha hw
  by_cases hbig : (l.length : Int) > 65536
  · exact .inl (by unfold laws_rBig.f; rw [decide_eq_true hbig])
  refine .inr ⟨by unfold laws_rBig.f; rw [decide_eq_false hbig], ?_⟩
  have hl : byteL l := ⟨by omega, fun x hx => by have := hw x hx; simp [Lit.wf] at this; exact ⟨this.1, this.2⟩⟩
  obtain ⟨o, ho, hol⟩ := drawCS_ok hl
  obtain ⟨x, hx, hxl⟩ := drawRP_ok hl
  obtain ⟨y, hy, hyl⟩ := drawSF_ok hl
  obtain ⟨z, hz, hzl⟩ := drawBO_ok hl
  obtain ⟨m, hmq⟩ : ∃ m : Nat, cntR o = ((m : Int), isOrd o) := by
    by_cases h : isOrd o = true
    · exact ⟨(cntGo 60 o).getD 0, by unfold cntR; rw [onOrd_pos h, h]⟩
    · exact ⟨0, by unfold cntR; rw [onOrd_neg h, Bool.eq_false_iff.2 h]; rfl⟩
  have hc1 := cs_impl_ev o (by omega)
  have hc2 := cs_spec_ev o (by omega)
  rw [hmq] at hc1 hc2
  have hsw := swR_ok y
  refine ⟨o, x, (recordR x).1, y, (swR y).1, z, (blocksR z).1, m, isOrd o, (recordR x).2, (swR y).2, (blocksR z).2, nwI o, ?_⟩
  have hfr : ∀ r ∈ (swR y).1, isOrd r = true ∧ sweepL r = y := by
    intro r hr
    by_cases h : isOrd y = true
    · have hq : swR y = ((ordersL y.length).filter (swB y), true) := by unfold swR; rw [if_pos h]
      rw [hq] at hr
      obtain ⟨h1, h2⟩ := List.mem_filter.1 hr
      have hlen := ord_len h
      exact ⟨ordersL_ord hlen.1 hlen.2 h1, of_decide_eq_true h2⟩
    · have hq : swR y = ([], false) := by unfold swR; rw [if_neg h]
      rw [hq] at hr; cases hr
  have hso : ∀ r, isOrd r = true → Ev (fun k => impl_SweepOrder.f k r) (sweepL r, true) := by
    intro r hr
    have hi := so_impl_ev r (by have := ord_len hr; omega)
    have hq : soR r = (sweepL r, true) := by unfold soR; rw [onOrd_pos hr]
    rwa [hq] at hi
  have hsrt : ∀ r, isOrd r = true → Ev (fun k => laws_rSorted.f k r) (srtR r.reverse) := by
    intro r hr
    have := rSorted_ev r (by have := ord_len hr; omega)
    rwa [(ok hr).2.1] at this
  have hrl : (recordR x).1.length ≤ 1048576 := by
    have := recordR_len x
    omega
  have hbl : (blocksR z).1.length ≤ 1000 := by
    have := blocksR_len z
    omega
  refine ⟨?e1, ho, hc1, hc2, io_ev o (by omega), hx, impl_record_ev x (by omega), spec_record_ev x (by omega), rInts_ev _ hrl, hy, sf_impl_ev y (by omega), sf_spec_ev y (by omega), rLists_ev _ hsw.1 (fun r hr => of_decide_eq_true (List.all_eq_true.1 hsw.2 r hr)), hz, impl_blocks_ev z (by omega), spec_blocks_ev z (by omega), rInts_ev _ (by omega), ?hone, ?hfrom, ?hfl, rInts_ev _ (by omega), ?hbl, ?hok⟩
  case e1 => unfold laws_rBig.f; rw [decide_eq_false hbig]
  case hone =>
    intro h1
    have hxo : isOrd x = true := by
      by_cases h : isOrd x = true
      · exact h
      · have hq : recordR x = ([], false) := by unfold recordR; rw [onOrd_neg h]
        rw [hq] at h1; cases h1
    have hk := okx hxo
    unfold okX at hk
    simp only [Bool.and_eq_true] at hk
    have h2 := hk.1.1
    cases hr : (recordR x).1 with
    | nil => rw [hr] at h2; cases h2
    | cons c t =>
      rw [hr] at h2
      exact ⟨by simp, by simpa using h2⟩
  case hfrom =>
    intro r hr
    obtain ⟨h1, h2⟩ := hfr r hr
    have := hso r h1
    rwa [h2] at this
  case hfl =>
    refine ⟨?_, by omega⟩
    by_cases h : isOrd y = true
    · have hq : swR y = ((ordersL y.length).filter (swB y), true) := by unfold swR; rw [if_pos h]
      rw [hq]
      have h1 := List.length_filter_le (swB y) (ordersL y.length)
      rw [ordersL_len] at h1
      have h2 : fac y.length ≤ 5040 := fac_le (ord_len h).2
      simp only; omega
    · have hq : swR y = ([], false) := by unfold swR; rw [if_neg h]
      rw [hq]; simp
  case hbl =>
    intro h1
    have hzo : isOrd z = true := by
      by_cases h : isOrd z = true
      · exact h
      · have hq : blocksR z = ([], false) := by unfold blocksR; rw [onOrd_neg h]
        rw [hq] at h1; cases h1
    have hk := okx hzo
    unfold okX at hk
    simp only [Bool.and_eq_true] at hk
    exact ⟨hk.1.2, by omega, hbl⟩
  case hok =>
    intro h
    obtain ⟨h1, h2, h3, c, hc⟩ := ok h
    have hmc : m = c := by
      have hq : cntR o = ((((cntGo 60 o).getD 0 : Nat) : Int), true) := by unfold cntR; rw [onOrd_pos h]
      rw [hq, hc] at hmq
      have := (Prod.mk.inj hmq).1
      simp at this
      omega
    subst hmc
    obtain ⟨k1, k2, k3⟩ := cnt_chain 60 o m h hc
    have hk := okx h
    unfold okX at hk
    simp only [Bool.and_eq_true, Bool.or_eq_true, beq_iff_eq, decide_eq_true_eq, hc, Option.getD_some] at hk
    have hl7 := ord_len h
    refine ⟨rfl, by omega, fun i hi => ⟨?_, ?_⟩, ?_, ?_⟩
    · have := hsrt (nwI o i) (k1 i (by omega))
      rwa [k2 i hi] at this
    · rw [nwI_succ]
      exact hso _ (k1 i (by omega))
    · have := hsrt (nwI o m) (k1 m (Nat.le_refl _))
      rwa [k3] at this
    · rcases hk.2 with h | h
      · exact .inr h
      · exact .inl (by omega)
end Go.Proofs.Ytlkddcabjcejdaa.Pure
