/- The pure statement of FnContained: what its functions answer; orders contain the patterns that are in them, first places have their shape, and fewest drops avoid them. No condition. -/
import Derived.Test.YtlkddcabjcejdaaMFnContainedx17
import Derived.Test.YtlkddcabjcejdaaBase
import Derived.Test.YtlkddcabjcejdaaBaseP
import Derived.Test.YtlkddcabjcejdaaBaseN
import Derived.Test.YtlkddcabjcejdaaBaseF
import Derived.Test.YtlkddcabjcejdaaBaseO
import Derived.Test.YtlkddcabjcejdaaBaseI
import Derived.Test.YtlkddcabjcejdaaBaseA
import Derived.Test.YtlkddcabjcejdaaBaseD
import Derived.Test.YtlkddcabjcejdaaBaseV
import Derived.Test.YtlkddcabjcejdaaBaseY
import Derived.Test.YtlkddcabjcejdaaBaseZ
namespace Go.Proofs.Ytlkddcabjcejdaa.Pure
open Go Go.RowKit Go.Proofs.Ytlkddcabjcejdaa.MFnContained Go.Proofs.YtlkddcabjcejdaaW.PrintWords Go.Proofs.Ytlkddcabjcejdaa.Base
set_option linter.unusedVariables false
set_option linter.unusedSimpArgs false
/-! ### the drawing functions -/
theorem u64_eq (n : Int) : IntKind.u64.wrap n = n % 18446744073709551616 := rfl
theorem and_ok (Y : Int) : 0 ≤ wrap64 (Go.bits .and .u64 (IntKind.u64.wrap Y / 1099511627776) 255) ∧ wrap64 (Go.bits .and .u64 (IntKind.u64.wrap Y / 1099511627776) 255) ≤ 255 := by
 rw [u64_eq]
 obtain ⟨m, hm⟩ : ∃ m : Nat, (Y % 18446744073709551616) / 1099511627776 = (m : Int) := ⟨((Y % 18446744073709551616) / 1099511627776).toNat, by omega⟩
 have hlt : m < 18446744073709551616 := by omega
 rw [hm, show (255 : Int) = ((255 : Nat) : Int) from rfl, Go.bits_and_u64_nat m 255 hlt (by omega)]
 have h2 : m &&& 255 ≤ 255 := Nat.and_le_right
 rw [wrap_of (by omega) (by omega)]
 omega
def byteL (l : List Int) : Prop := l.length ≤ 65536 ∧ ∀ x ∈ l, 0 ≤ x ∧ x ≤ 255
theorem rd_byte {l : List Int} (hl : byteL l) (i : Int) (h0 : 0 ≤ i) (h1 : i < (l.length : Int)) : 0 ≤ rd l i ∧ rd l i ≤ 255 := by
 have hi : i.toNat < l.length := by omega
 have e : rd l i = l[i.toNat] := by simp [rd, List.getD_eq_getElem?_getD, List.getElem?_eq_getElem hi]
 rw [e]
 exact hl.2 _ (List.getElem_mem hi)
theorem next_ok {l : List Int} (hl : byteL l) (s1 s2 : Int) (h0 : 0 ≤ s1) (h1 : s1 ≤ 1000000) : ∃ b s2', spec_l1Cur_next.f l s1 s2 = some (b, s1 + 1, s2') ∧ 0 ≤ b ∧ b ≤ 255 := by
 unfold spec_l1Cur_next.f
 rw [wrap_of (x := s1 + 1) (by omega) (by omega)]
 by_cases h : s1 < (l.length : Int)
 · have hr := rd_byte hl s1 h0 h
   rw [if_pos h, if_pos h0]
   by_cases h2 : s1 + 1 ≤ (l.length : Int)
   · rw [if_pos h2]
     exact ⟨_, _, rfl, by rw [wrap_of (by omega) (by omega)]; exact hr.1, by rw [wrap_of (by omega) (by omega)]; exact hr.2⟩
   · rw [if_neg h2]
     exact ⟨_, _, rfl, (and_ok _).1, (and_ok _).2⟩
 · rw [if_neg h]
   by_cases h2 : s1 + 1 ≤ (l.length : Int)
   · rw [if_pos h2]
     exact ⟨_, _, rfl, by omega, by omega⟩
   · rw [if_neg h2]
     exact ⟨_, _, rfl, (and_ok _).1, (and_ok _).2⟩
theorem pick_ok {l : List Int} (hl : byteL l) (s1 s2 n : Int) (h0 : 0 ≤ s1) (h1 : s1 ≤ 1000000) (hn : 2 ≤ n) (hn2 : n ≤ 200) : ∃ b s2', spec_l1Cur_pick.f l s1 s2 n = some (b, s1 + 1, s2') ∧ 0 ≤ b ∧ b < n := by
 obtain ⟨b, s2', hb, hb0, hb1⟩ := next_ok hl s1 s2 h0 h1
 unfold spec_l1Cur_pick.f
 rw [if_neg (by omega), hb]
 simp only [Option.bind_some]
 rw [if_neg (by omega), if_neg (by omega)]
 refine ⟨_, _, rfl, ?_, ?_⟩
 · rw [Int.tmod_eq_emod_of_nonneg hb0]; exact Int.emod_nonneg _ (by omega)
 · rw [Int.tmod_eq_emod_of_nonneg hb0]; exact Int.emod_lt_of_pos _ (by omega)

/-! ### the drawing functions that draw orders -/
theorem pick_any {l : List Int} (hl : byteL l) (s1 s2 n : Int) (h0 : 0 ≤ s1) (h1 : s1 ≤ 1000000) (hn : 1 ≤ n) (hn2 : n ≤ 200) : ∃ b s1' s2', spec_l1Cur_pick.f l s1 s2 n = some (b, s1', s2') ∧ 0 ≤ b ∧ b < n ∧ s1 ≤ s1' ∧ s1' ≤ s1 + 1 := by
 by_cases h : n = 1
 · subst h
   exact ⟨0, s1, s2, by unfold spec_l1Cur_pick.f; rw [if_pos (by omega)], by omega, by omega, by omega, by omega⟩
 · obtain ⟨b, s2', hb, hb0, hb1⟩ := pick_ok hl s1 s2 n h0 h1 (by omega) hn2
   exact ⟨b, s1 + 1, s2', hb, hb0, hb1, by omega, by omega⟩
theorem among_ok {l : List Int} (hl : byteL l) (s1 s2 : Int) (xs : List Int) (h0 : 0 ≤ s1) (h1 : s1 ≤ 1000000) (hn : 1 ≤ xs.length) (hn2 : xs.length ≤ 200) : ∃ x s1' s2', spec_l1Cur_among.f l s1 s2 xs = some (x, s1', s2') ∧ x ∈ xs ∧ s1 ≤ s1' ∧ s1' ≤ s1 + 1 := by
 obtain ⟨b, s1', s2', hb, hb0, hb1, hs, hs'⟩ := pick_any hl s1 s2 (xs.length : Int) h0 h1 (by omega) (by omega)
 unfold spec_l1Cur_among.f
 rw [hb]
 simp only [Option.bind_some]
 rw [if_pos hb0, if_pos hb1]
 refine ⟨_, _, _, rfl, ?_, hs, hs'⟩
 have hi : b.toNat < xs.length := by omega
 have e : rd xs b = xs[b.toNat] := by simp [rd, List.getD_eq_getElem?_getD, List.getElem?_eq_getElem hi]
 rw [e]
 exact List.getElem_mem hi
theorem own_ok (x : List Int) (h : x.length ≤ 1000) : spec_l1Own.f x = some x := by
 unfold spec_l1Own.f
 simp only [Option.bind_some, List.length_nil, Nat.zero_add, List.nil_append]
 rw [if_pos (by omega)]
theorem order_l {l : List Int} (hl : byteL l) : ∀ (d : Nat) (x : List Int) (s1 s2 : Int), x.length + d ≤ 7 → 1 ≤ x.length + d → 0 ≤ s1 → s1 + d ≤ 900000 →
 ∃ v, Ev (fun k => spec_l1Cur_order.l0 k x (d : Int) l s1 s2) v ∧ v.1.length ≤ 8 ∧ 0 ≤ v.2.1 ∧ v.2.1 ≤ s1 + d + 3 := by
 intro d
 induction d with
 | zero =>
  intro x s1 s2 hx hx1 h0 h1
  obtain ⟨p, s3, s4, hp, hp0, hp1, hs, hs'⟩ := pick_any hl s1 s2 40 h0 (by omega) (by omega) (by omega)
  by_cases hz : p = 0
  · refine ⟨([], s3, s4), ev_succ ?_, by simp, by simp only; omega, by simp only; omega⟩
    simp only [spec_l1Cur_order.l0.eq_2, hp]
    exact ev_neg (by omega) (ev_let (ev_pos hz (ev_now rfl)))
  · by_cases hz1 : p = 1
    · obtain ⟨q, s5, s6, hq, hq0, hq1, ht, ht'⟩ := pick_any hl s3 s4 (x.length : Int) (by omega) (by omega) (by omega) (by omega)
      obtain ⟨y, s7, s8, hy, _, hu, hu'⟩ := among_ok hl s5 s6 [0, 1, 8, (-1)] (by omega) (by omega) (by decide) (by decide)
      refine ⟨(x.set q.toNat y, s7, s8), ev_succ ?_, by simp; omega, by simp only; omega, by simp only; omega⟩
      simp only [spec_l1Cur_order.l0.eq_2, hp]
      refine ev_neg (by omega) (ev_let (ev_neg hz (ev_pos hz1 ?_)))
      simp only [hq]
      refine ev_let ?_
      simp only [hy]
      exact ev_let (ev_pos hq0 (ev_pos hq1 (ev_now rfl)))
    · by_cases hz2 : p = 2
      · refine ⟨([1, 2, 3, 4, 5, 6, 7, 8], s3, s4), ev_succ ?_, by simp, by simp only; omega, by simp only; omega⟩
        simp only [spec_l1Cur_order.l0.eq_2, hp]
        exact ev_neg (by omega) (ev_let (ev_neg hz (ev_neg hz1 (ev_pos hz2 (ev_now rfl)))))
      · refine ⟨(x, s3, s4), ev_succ ?_, by simp only; omega, by simp only; omega, by simp only; omega⟩
        simp only [spec_l1Cur_order.l0.eq_2, hp]
        exact ev_neg (by omega) (ev_let (ev_neg hz (ev_neg hz1 (ev_neg hz2 (ev_now rfl)))))
 | succ d ih =>
  intro x s1 s2 hx hx1 h0 h1
  obtain ⟨p, s3, s4, hp, hp0, hp1, hs, hs'⟩ := pick_any hl s1 s2 ((x.length : Int) + 1) h0 (by omega) (by omega) (by omega)
  have hw : wrap64 ((x.length : Int) + 1) = (x.length : Int) + 1 := wrap_of (by omega) (by omega)
  have hlen : ((x.take p.toNat ++ [(x.length : Int) + 1]) ++ x.drop p.toNat).length = x.length + 1 := by simp; omega
  obtain ⟨v, hv, hv1, hv2, hv3⟩ := ih ((x.take p.toNat ++ [(x.length : Int) + 1]) ++ x.drop p.toNat) s3 s4 (by rw [hlen]; omega) (by omega) (by omega) (by omega)
  refine ⟨v, ev_succ ?_, hv1, hv2, by omega⟩
  have how := own_ok (x.take p.toNat) (by simp; omega)
  simp only [spec_l1Cur_order.l0.eq_2, hw, hp]
  rw [wrap_of (x := ((d + 1 : Nat) : Int) - 1) (by omega) (by omega), show ((d + 1 : Nat) : Int) - 1 = (d : Int) by omega]
  refine ev_pos (by omega) (ev_let (ev_pos hp0 (ev_pos (by simp only; omega) ?_)))
  simp only [how]
  exact ev_let (ev_let (ev_pos (by simp; omega) (ev_let (ev_let (ev_pos (by simp; omega) hv)))))
theorem order_ok {l : List Int} (hl : byteL l) (s1 s2 : Int) (h0 : 0 ≤ s1) (h1 : s1 ≤ 800000) : ∃ v, Ev (fun k => spec_l1Cur_order.f k l s1 s2) v ∧ v.1.length ≤ 8 ∧ 0 ≤ v.2.1 ∧ v.2.1 ≤ s1 + 20 := by
 obtain ⟨y, s3, s4, hy, hm, hs, hs'⟩ := among_ok hl s1 s2 [4, 5, 3, 6, 2, 7, 1, 4] h0 (by omega) (by decide) (by decide)
 have hr : 1 ≤ y ∧ y ≤ 7 := by
  simp only [List.mem_cons, List.not_mem_nil, or_false] at hm
  omega
 obtain ⟨v, hv, hv1, hv2, hv3⟩ := order_l hl y.toNat [] s3 s4 (by simp; omega) (by simp; omega) (by omega) (by omega)
 refine ⟨v, ?_, hv1, hv2, by omega⟩
 unfold spec_l1Cur_order.f
 rw [hy]
 refine ev_let ?_
 rw [show ((y.toNat : Nat) : Int) = y by omega] at hv
 exact hv

/-! ### further drawing functions -/
theorem pick_all {l : List Int} (hl : byteL l) (s1 s2 n : Int) (h0 : 0 ≤ s1) (h1 : s1 ≤ 900000) (hn : 1 ≤ n) (hn2 : n ≤ 1000000) : ∃ b s1' s2', spec_l1Cur_pick.f l s1 s2 n = some (b, s1', s2') ∧ 0 ≤ b ∧ b < n ∧ s1 ≤ s1' ∧ s1' ≤ s1 + 2 := by
 by_cases h : n ≤ 200
 · obtain ⟨b, s1', s2', hb, h2, h3, h4, h5⟩ := pick_any hl s1 s2 n h0 (by omega) hn h
   exact ⟨b, s1', s2', hb, h2, h3, h4, by omega⟩
 · obtain ⟨b, s2', hb, hb0, hb1⟩ := next_ok hl s1 s2 h0 (by omega)
   obtain ⟨c, s3', hc, hc0, hc1⟩ := next_ok hl (s1 + 1) s2' (by omega) (by omega)
   unfold spec_l1Cur_pick.f
   rw [if_neg (by omega), hb]
   simp only [Option.bind_some]
   rw [if_pos (by omega), hc]
   simp only [Option.bind_some]
   rw [if_neg (by omega), wrap_of (x := b * 256) (by omega) (by omega), wrap_of (by omega) (by omega)]
   refine ⟨_, _, _, rfl, ?_, ?_, by omega, by omega⟩
   · rw [Int.tmod_eq_emod_of_nonneg (by omega)]; exact Int.emod_nonneg _ (by omega)
   · rw [Int.tmod_eq_emod_of_nonneg (by omega)]; exact Int.emod_lt_of_pos _ (by omega)
theorem one_any {l : List Int} (hl : byteL l) (s1 s2 n : Int) (h0 : 0 ≤ s1) (h1 : s1 ≤ 900000) (hn : 1 ≤ n) (hn2 : n ≤ 200) : ∃ b s1' s2', spec_l1Cur_one.f l s1 s2 n = some (b, s1', s2') ∧ s1 ≤ s1' ∧ s1' ≤ s1 + 1 := by
 obtain ⟨b, s3, s4, hb, _, _, hs, hs'⟩ := pick_any hl s1 s2 n h0 (by omega) hn hn2
 exact ⟨b == 0, s3, s4, by unfold spec_l1Cur_one.f; rw [hb]; rfl, hs, hs'⟩

theorem same_l (a b : List Int) (hl : a.length * 8 ≤ 140737488351232) : ∀ (s t pre q : List Int), a = pre ++ s → b = q ++ t → pre.length = q.length → s.length = t.length → Ev (fun k => spec_l1Same.l0 k a b (pre.length : Int)) (decide (s = t)) := by
 intro s
 induction s with
 | nil =>
  intro t pre q e e' h1 h2
  have h := len_end e
  obtain rfl : t = [] := by cases t with
   | nil => rfl
   | cons _ _ => simp at h2
  refine ev_succ ?_
  simp only [spec_l1Same.l0.eq_2]
  refine ev_neg (by omega) ?_
  exact ev_now (by simp)
 | cons c s ih =>
  intro t pre q e e' h1 h2
  cases t with
  | nil => simp at h2
  | cons d t =>
  have h := len_mid e
  have h' := len_mid e'
  refine ev_succ ?_
  have r1 := rd_mid' e
  have r2 := rd_mid' e'
  rw [← h1] at r2
  simp only [spec_l1Same.l0.eq_2, r1, r2]
  refine ev_pos (by omega) (ev_pos (by omega) (ev_pos (by omega) ?_))
  by_cases hc : c = d
  · refine ev_pos hc ?_
    rw [wrap_snoc (pre := pre) (c := c) (by omega)]
    refine ev_eq (ih t (pre ++ [c]) (q ++ [d]) (snoc_mid e) (snoc_mid e') (by simp [h1]) (by simpa using h2)) ?_
    simp [hc]
  · refine ev_neg hc (ev_now ?_)
    simp [hc]
theorem same_ev (a b : List Int) (hl : a.length * 8 ≤ 140737488351232) : Ev (fun k => spec_l1Same.f k a b) (decide (a = b)) := by
 unfold spec_l1Same.f
 by_cases h : a.length = b.length
 · refine ev_pos (by omega) ?_
   exact same_l a b hl a b [] [] rfl rfl rfl h
 · refine ev_neg (by omega) (ev_now ?_)
   symm
   exact decide_eq_false (fun e => h (by rw [e]))

/-! ### Is it an order? -/
theorem in_ev (a b c : Int) : Ev (fun _ => spec_l1In.f a b c) (decide (b ≤ a) && decide (a ≤ c)) := by
 unfold spec_l1In.f
 by_cases h : a ≥ b
 · refine ev_pos h (ev_now ?_)
   have : decide (b ≤ a) = true := decide_eq_true h
   rw [this]; rfl
 · refine ev_neg h (ev_now ?_)
   have : decide (b ≤ a) = false := decide_eq_false (by omega)
   rw [this]; rfl

theorem has_l (l : List Int) (x : Int) (hl : l.length ≤ 140737488351232) : ∀ (suf pre : List Int), l = pre ++ suf → Ev (fun k => spec_l1Has.l0 k l x (pre.length : Int)) (decide (x ∈ suf)) := by
 intro suf
 induction suf with
 | nil =>
  intro pre e
  have h := len_end e
  refine ev_succ ?_
  simp only [spec_l1Has.l0.eq_2]
  refine ev_neg (by omega) ?_
  exact ev_now (by simp)
 | cons c suf ih =>
  intro pre e
  have h := len_mid e
  refine ev_succ ?_
  simp only [spec_l1Has.l0.eq_2, rd_mid' e]
  refine ev_pos (by omega) (ev_pos (by omega) ?_)
  by_cases hc : c = x
  · exact ev_pos hc (ev_now (by simp [hc]))
  · refine ev_neg hc ?_
    rw [wrap_snoc (pre := pre) (c := c) (by omega)]
    refine ev_eq (ih _ (snoc_mid e)) ?_
    have : x ≠ c := fun h => hc h.symm
    simp [this]
theorem has_ev (l : List Int) (x : Int) (hl : l.length ≤ 140737488351232) : Ev (fun k => spec_l1Has.f k l x) (decide (x ∈ l)) := by
 unfold spec_l1Has.f
 exact has_l l x hl l [] rfl
theorem idx_l (l : List Int) (x : Int) (hl : l.length ≤ 140737488351232) : ∀ (suf pre : List Int), l = pre ++ suf → Ev (fun k => slices_Index_int_int.l0 k l x (l.length : Int) (pre.length : Int)) (if x ∈ suf then ((pre.length + suf.idxOf x : Nat) : Int) else -1) := by
 intro suf
 induction suf with
 | nil =>
  intro pre e
  have h := len_end e
  refine ev_succ ?_
  simp only [slices_Index_int_int.l0.eq_2]
  refine ev_neg (by omega) ?_
  exact ev_now (by simp)
 | cons c suf ih =>
  intro pre e
  have h := len_mid e
  refine ev_succ ?_
  simp only [slices_Index_int_int.l0.eq_2, rd_mid' e]
  refine ev_pos (by omega) (ev_pos (by omega) (ev_pos (by omega) ?_))
  by_cases hc : x = c
  · exact ev_pos hc (ev_now (by simp [hc]))
  · refine ev_neg hc ?_
    rw [wrap_snoc (pre := pre) (c := c) (by omega)]
    refine ev_eq (ih _ (snoc_mid e)) ?_
    have hc' : ¬ c = x := fun h => hc h.symm
    have hb : (c == x) = false := by simpa using hc'
    simp only [List.mem_cons, hc, false_or, List.idxOf_cons, hb, cond_false]
    by_cases hm : x ∈ suf
    · rw [if_pos hm, if_pos hm]; simp; omega
    · rw [if_neg hm, if_neg hm]
theorem idx_ev (l : List Int) (x : Int) (hl : l.length ≤ 140737488351232) : Ev (fun k => slices_Index_int_int.f k l x) (if x ∈ l then ((l.idxOf x : Nat) : Int) else -1) := by
 unfold slices_Index_int_int.f
 simpa using idx_l l x hl l [] rfl
theorem contains_ev (l : List Int) (x : Int) (hl : l.length ≤ 140737488351232) : Ev (fun k => slices_Contains_int_int.f k l x) (decide (x ∈ l)) := by
 unfold slices_Contains_int_int.f
 refine ev_bind (idx_ev l x hl) (ev_now ?_)
 by_cases h : x ∈ l
 · simp [h]
 · simp [h]


theorem spec_order_l (l : List Int) (hl : l.length ≤ 140737488351232) : ∀ (suf pre : List Int), l = pre ++ suf → Ev (fun k => spec_l2Order.l0 k l (pre.length : Int)) (ordGo (l.length : Int) pre suf) := by
 intro suf
 induction suf with
 | nil =>
  intro pre e
  have h := len_end e
  refine ev_succ ?_
  simp only [spec_l2Order.l0.eq_2]
  refine ev_neg (by omega) ?_
  exact ev_now rfl
 | cons c suf ih =>
  intro pre e
  have h := len_mid e
  refine ev_succ ?_
  simp only [spec_l2Order.l0.eq_2, rd_mid' e, take_mid e]
  refine ev_pos (by omega) (ev_pos (by omega) (ev_bind (in_ev _ _ _) ?_))
  by_cases hr : 1 ≤ c ∧ c ≤ (l.length : Int)
  · refine ev_pos (by simp [hr.1, hr.2]) (ev_pos (by omega) (ev_bind (has_ev pre c (by omega)) ?_))
    by_cases hc : c ∈ pre
    · exact ev_pos (by simp [hc]) (ev_now (by simp [ordGo, hc]))
    · refine ev_neg (by simp [hc]) ?_
      rw [wrap_snoc (pre := pre) (c := c) (by omega)]
      refine ev_eq (ih _ (snoc_mid e)) ?_
      simp [ordGo, hr.1, hr.2, hc]
  · refine ev_neg (by simp; omega) (ev_now ?_)
    simp only [ordGo]
    rw [if_neg (fun h => hr ⟨h.1, h.2.1⟩)]
theorem spec_order_ev (l : List Int) (hl : l.length ≤ 140737488351232) : Ev (fun k => spec_l2Order.f k l) (isOrd l) := by
 unfold spec_l2Order.f
 refine ev_bind (in_ev _ _ _) ?_
 unfold isOrd
 by_cases h : 1 ≤ l.length ∧ l.length ≤ 7
 · refine ev_pos (by simp; omega) ?_
   rw [if_pos h]
   exact spec_order_l l hl l [] rfl
 · refine ev_neg (by simp; omega) (ev_now ?_)
   rw [if_neg h]
theorem impl_order_l (l : List Int) (hl : l.length ≤ 140737488351232) : ∀ (suf pre : List Int), l = pre ++ suf → Ev (fun k => impl_isOrder.l0 k l l (l.length : Int) (pre.length : Int)) (ordGo (l.length : Int) pre suf) := by
 intro suf
 induction suf with
 | nil =>
  intro pre e
  have h := len_end e
  refine ev_succ ?_
  simp only [impl_isOrder.l0.eq_2]
  refine ev_neg (by omega) ?_
  exact ev_now rfl
 | cons c suf ih =>
  intro pre e
  have h := len_mid e
  refine ev_succ ?_
  simp only [impl_isOrder.l0.eq_2, rd_mid' e, take_mid e]
  refine ev_pos (by omega) (ev_pos (by omega) (ev_pos (by omega) ?_))
  by_cases h1 : c < 1
  · exact ev_pos h1 (ev_now (by simp only [ordGo]; rw [if_neg (fun h => by omega)]))
  refine ev_neg h1 ?_
  by_cases h2 : c > (l.length : Int)
  · exact ev_pos h2 (ev_now (by simp only [ordGo]; rw [if_neg (fun h => by omega)]))
  refine ev_neg h2 (ev_pos (by omega) (ev_bind (contains_ev pre c (by omega)) ?_))
  by_cases hc : c ∈ pre
  · exact ev_pos (by simp [hc]) (ev_now (by simp [ordGo, hc]))
  · refine ev_neg (by simp [hc]) ?_
    rw [wrap_snoc (pre := pre) (c := c) (by omega)]
    refine ev_eq (ih _ (snoc_mid e)) ?_
    simp only [ordGo]
    rw [if_pos ⟨by omega, by omega, hc⟩]
theorem impl_order_ev (l : List Int) (hl : l.length ≤ 140737488351232) : Ev (fun k => impl_isOrder.f k l) (isOrd l) := by
 have key : ∀ b : Bool, Ev (fun k => impl_isOrder.j0 k l b) (if b = true then false else ordGo (l.length : Int) [] l) := by
  intro b
  refine ev_succ ?_
  simp only [impl_isOrder.j0.eq_2]
  cases b with
  | true => exact ev_pos rfl (ev_now rfl)
  | false => exact ev_neg (by simp) (impl_order_l l hl l [] rfl)
 unfold impl_isOrder.f isOrd
 by_cases h1 : (l.length : Int) < 1
 · refine ev_pos h1 (ev_eq (key true) ?_)
   rw [if_pos rfl, if_neg (fun h => by omega)]
 · refine ev_neg h1 (ev_eq (key _) ?_)
   by_cases h2 : (l.length : Int) > 7
   · rw [if_neg (c := 1 ≤ l.length ∧ l.length ≤ 7) (fun h => by omega), if_pos (decide_eq_true h2)]
   · rw [if_pos (c := 1 ≤ l.length ∧ l.length ≤ 7) ⟨by omega, by omega⟩, if_neg (by simp; omega)]


theorem isSize_ev (n : Int) : Ev (fun _ => impl_isSize.f n) (decide (1 ≤ n) && decide (n ≤ 7)) := by
 unfold impl_isSize.f
 by_cases h : n ≥ 1
 · refine ev_pos h (ev_now ?_)
   have : decide (1 ≤ n) = true := decide_eq_true h
   rw [this]; rfl
 · refine ev_neg h (ev_now ?_)
   have : decide (1 ≤ n) = false := decide_eq_false (by omega)
   rw [this]; rfl

/-! ### shape -/
theorem spec_shape_in (l : List Int) (hl : l.length ≤ 7) (x : Int) (i : Int) (hi : 0 ≤ i ∧ i < l.length) (hx : rd l i = x) (out R : List Int) (ho : out.length ≤ 7) : ∀ (suf pre : List Int) (a : Int), l = pre ++ suf → 0 ≤ a → a + suf.length ≤ 100 → Ev (fun k => spec_l3Shape.l0 k l (out ++ [a + lessN x suf]) (wrap64 (i + 1))) R → Ev (fun k => spec_l3Shape.l1 k l out i a (pre.length : Int)) R := by
 intro suf
 induction suf with
 | nil =>
  intro pre a e h0 h1 hR
  have h := len_end e
  refine ev_succ ?_
  simp only [spec_l3Shape.l1.eq_2]
  refine ev_neg (by omega) (ev_pos (by omega) ?_)
  simpa [lessN] using hR
 | cons c suf ih =>
  intro pre a e h0 h1 hR
  have h := len_mid e
  simp only [List.length_cons] at h1
  refine ev_succ ?_
  simp only [spec_l3Shape.l1.eq_2, rd_mid' e, hx]
  rw [wrap_snoc (pre := pre) (c := c) (by omega)]
  refine ev_pos (by omega) (ev_pos (by omega) (ev_pos (by omega) (ev_pos (by omega) ?_)))
  rw [lessN_cons] at hR
  by_cases hc : c < x
  · refine ev_pos hc ?_
    rw [wrap_of (x := a + 1) (by omega) (by omega)]
    refine ih _ _ (snoc_mid e) (by omega) (by omega) ?_
    rw [if_pos hc] at hR
    rwa [show a + 1 + (lessN x suf : Int) = a + ((1 + lessN x suf : Nat) : Int) by omega]
  · refine ev_neg hc (ih _ _ (snoc_mid e) (by omega) (by omega) ?_)
    rw [if_neg hc] at hR
    simpa using hR
theorem spec_shape_l (l : List Int) (hl : l.length ≤ 7) : ∀ (suf pre out : List Int), l = pre ++ suf → out.length = pre.length → Ev (fun k => spec_l3Shape.l0 k l out (pre.length : Int)) (out ++ suf.map (fun x => ((1 + lessN x l : Nat) : Int))) := by
 intro suf
 induction suf with
 | nil =>
  intro pre out e ho
  have h := len_end e
  refine ev_succ ?_
  simp only [spec_l3Shape.l0.eq_2]
  exact ev_neg (by omega) (ev_now (by simp))
 | cons c suf ih =>
  intro pre out e ho
  have h := len_mid e
  refine ev_succ ?_
  simp only [spec_l3Shape.l0.eq_2]
  refine ev_pos (by omega) (spec_shape_in l hl c _ ⟨by omega, by omega⟩ (rd_mid' e) out _ (by omega) l [] 1 rfl (by omega) (by omega) ?_)
  rw [wrap_snoc (pre := pre) (c := c) (by omega)]
  refine ev_eq (ih _ _ (snoc_mid e) ?_) ?_
  · simp [ho]
  · simp
theorem spec_shape_ev (l : List Int) (hl : l.length ≤ 7) : Ev (fun k => spec_l3Shape.f k l) (shapeL l) := by
 unfold spec_l3Shape.f shapeL
 exact spec_shape_l l hl l [] [] rfl rfl

/-! ### shape: the program -/
theorem impl_shape_in (l : List Int) (hl : l.length ≤ 7) (x : Int) (i : Int) (out R : List Int) (ho : out.length ≤ 7) : ∀ (suf pre : List Int) (a : Int), l = pre ++ suf → 0 ≤ a → a + suf.length ≤ 100 → Ev (fun k => impl_shape.l0 k l (out ++ [a + lessN x suf]) l (l.length : Int) (wrap64 (i + 1))) R → Ev (fun k => impl_shape.l1 k l out x a l (l.length : Int) i l (l.length : Int) (pre.length : Int)) R := by
 intro suf
 induction suf with
 | nil =>
  intro pre a e h0 h1 hR
  have h := len_end e
  refine ev_succ ?_
  simp only [impl_shape.l1.eq_2]
  refine ev_neg (by omega) (ev_pos (by omega) ?_)
  simpa [lessN] using hR
 | cons c suf ih =>
  intro pre a e h0 h1 hR
  have h := len_mid e
  simp only [List.length_cons] at h1
  refine ev_succ ?_
  simp only [impl_shape.l1.eq_2, rd_mid' e]
  rw [wrap_snoc (pre := pre) (c := c) (by omega)]
  refine ev_pos (by omega) (ev_pos (by omega) (ev_pos (by omega) ?_))
  rw [lessN_cons] at hR
  by_cases hc : c < x
  · refine ev_pos hc ?_
    rw [wrap_of (x := a + 1) (by omega) (by omega)]
    refine ih _ _ (snoc_mid e) (by omega) (by omega) ?_
    rw [if_pos hc] at hR
    rwa [show a + 1 + (lessN x suf : Int) = a + ((1 + lessN x suf : Nat) : Int) by omega]
  · refine ev_neg hc (ih _ _ (snoc_mid e) (by omega) (by omega) ?_)
    rw [if_neg hc] at hR
    simpa using hR
theorem impl_shape_l (l : List Int) (hl : l.length ≤ 7) : ∀ (suf pre out : List Int), l = pre ++ suf → out.length = pre.length → Ev (fun k => impl_shape.l0 k l out l (l.length : Int) (pre.length : Int)) (out ++ suf.map (fun x => ((1 + lessN x l : Nat) : Int))) := by
 intro suf
 induction suf with
 | nil =>
  intro pre out e ho
  have h := len_end e
  refine ev_succ ?_
  simp only [impl_shape.l0.eq_2]
  exact ev_neg (by omega) (ev_now (by simp))
 | cons c suf ih =>
  intro pre out e ho
  have h := len_mid e
  refine ev_succ ?_
  simp only [impl_shape.l0.eq_2, rd_mid' e]
  refine ev_pos (by omega) (ev_pos (by omega) (ev_pos (by omega) (impl_shape_in l hl c _ out _ (by omega) l [] 1 rfl (by omega) (by omega) ?_)))
  rw [wrap_snoc (pre := pre) (c := c) (by omega)]
  refine ev_eq (ih _ _ (snoc_mid e) ?_) ?_
  · simp [ho]
  · simp
theorem impl_shape_ev (l : List Int) (hl : l.length ≤ 7) : Ev (fun k => impl_shape.f k l) (shapeL l) := by
 unfold impl_shape.f shapeL
 exact impl_shape_l l hl l [] [] rfl rfl

/-! ### ShapeOf -/
theorem spec_dist_l (l : List Int) (hl : l.length ≤ 7) : ∀ (suf pre : List Int), l = pre ++ suf → Ev (fun k => spec_ShapeOf.l0 k l (pre.length : Int)) (if distGo pre suf = true then (shapeL l, true) else ([], false)) := by
 intro suf
 induction suf with
 | nil =>
  intro pre e
  have h := len_end e
  refine ev_succ ?_
  simp only [spec_ShapeOf.l0.eq_2]
  exact ev_neg (by omega) (ev_bind (spec_shape_ev l hl) (ev_now (by simp [distGo])))
 | cons c suf ih =>
  intro pre e
  have h := len_mid e
  refine ev_succ ?_
  simp only [spec_ShapeOf.l0.eq_2, rd_mid' e, take_mid e]
  rw [wrap_snoc (pre := pre) (c := c) (by omega)]
  refine ev_pos (by omega) (ev_pos (by omega) (ev_pos (by omega) (ev_bind (has_ev pre c (by omega)) ?_)))
  by_cases hc : c ∈ pre
  · exact ev_pos (by simp [hc]) (ev_now (by simp [distGo, hc]))
  · refine ev_neg (by simp [hc]) (ev_eq (ih _ (snoc_mid e)) ?_)
    simp [distGo, hc]
theorem spec_shapeof_ev (l : List Int) (hl : l.length ≤ 140737488351232) : Ev (fun k => spec_ShapeOf.f k l) (shapeR l) := by
 unfold spec_ShapeOf.f shapeR isList
 refine ev_bind (in_ev _ _ _) ?_
 by_cases h : 1 ≤ l.length ∧ l.length ≤ 7
 · refine ev_pos (by simp; omega) (ev_eq (spec_dist_l l h.2 l [] rfl) ?_)
   simp [h.1, h.2]
 · refine ev_neg (by simp; omega) (ev_now ?_)
   rw [if_neg]; simp; omega
theorem impl_dist_l (l : List Int) (hl : l.length ≤ 7) : ∀ (suf pre : List Int), l = pre ++ suf → Ev (fun k => impl_ShapeOf.l0 k l l (l.length : Int) (pre.length : Int)) (if distGo pre suf = true then (shapeL l, true) else ([], false)) := by
 intro suf
 induction suf with
 | nil =>
  intro pre e
  have h := len_end e
  refine ev_succ ?_
  simp only [impl_ShapeOf.l0.eq_2]
  exact ev_neg (by omega) (ev_bind (impl_shape_ev l hl) (ev_now (by simp [distGo])))
 | cons c suf ih =>
  intro pre e
  have h := len_mid e
  refine ev_succ ?_
  simp only [impl_ShapeOf.l0.eq_2, rd_mid' e, take_mid e]
  rw [wrap_snoc (pre := pre) (c := c) (by omega)]
  refine ev_pos (by omega) (ev_pos (by omega) (ev_pos (by omega) (ev_pos (by omega) (ev_bind (contains_ev pre c (by omega)) ?_))))
  by_cases hc : c ∈ pre
  · exact ev_pos (by simp [hc]) (ev_now (by simp [distGo, hc]))
  · refine ev_neg (by simp [hc]) (ev_eq (ih _ (snoc_mid e)) ?_)
    simp [distGo, hc]
theorem impl_shapeof_ev (l : List Int) (hl : l.length ≤ 140737488351232) : Ev (fun k => impl_ShapeOf.f k l) (shapeR l) := by
 unfold impl_ShapeOf.f shapeR isList
 refine ev_bind (isSize_ev _) ?_
 by_cases h : 1 ≤ l.length ∧ l.length ≤ 7
 · refine ev_pos (by simp; omega) (ev_eq (impl_dist_l l h.2 l [] rfl) ?_)
   simp [h.1, h.2]
 · refine ev_neg (by simp; omega) (ev_now ?_)
   rw [if_neg]; simp; omega

/-! ### all choices, as the reference lists them -/
theorem own_ev (l : List Int) (h : l.length ≤ 1000000) : Ev (fun _ => spec_l1Own.f l) l := by
 unfold spec_l1Own.f
 exact ev_let (ev_pos (by simp; omega) (ev_now (by simp)))

theorem choices_f (n many : Nat) (hn : n ≤ 7) (r : Nat) (L : ∀ (done : List Int) (acc : List (List Int)), done.length + r ≤ n → acc.length + (chL n many r done).length ≤ 1000 → Ev (fun k => spec_l3Choices.l0 k done (n : Int) (many : Int) acc ((n - r : Nat) : Int)) (acc ++ chL n many r done)) :
 ∀ (done : List Int), done.length + r ≤ n → (done = [] ∧ r = n ∨ ∃ d, ∃ x : Int, done = d ++ [x] ∧ x + 1 = ((n - r : Nat) : Int)) → Ev (fun k => spec_l3Choices.f k done (n : Int) (many : Int)) (chA n many r done) := by
 intro done hd hl
 have hb := chL_bound n many r done (by omega)
 refine ev_succ ?_
 simp only [spec_l3Choices.f.eq_2]
 unfold chA
 by_cases hm : done.length = many
 · rw [if_pos hm]; exact ev_pos (by omega) (ev_now rfl)
 · rw [if_neg hm]
   have J : ∀ x : Int, x = ((n - r : Nat) : Int) → Ev (fun k => spec_l3Choices.j0 k done (n : Int) (many : Int) [] x) (chL n many r done) := by
    intro x hx
    refine ev_succ ?_
    simp only [spec_l3Choices.j0.eq_2]
    rw [hx]
    exact ev_eq (L done [] hd (by simp; omega)) (by simp)
   refine ev_neg (by omega) (ev_let ?_)
   rcases hl with ⟨rfl, rfl⟩ | ⟨d, x, rfl, hx⟩
   · exact ev_neg (by simp) (J 0 (by simp))
   · have h1 : ((d ++ [x]).length : Int) = (d.length : Int) + 1 := by simp
     have h2 : rd (d ++ [x]) (((d ++ [x]).length : Int) - 1) = x := by simp [rd]
     rw [wrap_of (x := ((d ++ [x]).length : Int) - 1) (by simp at hd; omega) (by simp at hd; omega), h2]
     exact ev_pos (by omega) (ev_pos (by omega) (ev_pos (by omega) (J _ (by rw [wrap_of (by omega) (by omega)]; exact hx))))
theorem choices_l (n many : Nat) (hn : n ≤ 7) : ∀ (r : Nat), r ≤ n →
 (∀ (done : List Int) (acc : List (List Int)), done.length + r ≤ n → acc.length + (chL n many r done).length ≤ 1000 → Ev (fun k => spec_l3Choices.l0 k done (n : Int) (many : Int) acc ((n - r : Nat) : Int)) (acc ++ chL n many r done)) ∧
 (∀ (done : List Int), done.length + r ≤ n → (done = [] ∧ r = n ∨ ∃ d, ∃ x : Int, done = d ++ [x] ∧ x + 1 = ((n - r : Nat) : Int)) → Ev (fun k => spec_l3Choices.f k done (n : Int) (many : Int)) (chA n many r done)) := by
 intro r
 induction r with
 | zero =>
  intro hr
  have L : ∀ (done : List Int) (acc : List (List Int)), done.length + 0 ≤ n → acc.length + (chL n many 0 done).length ≤ 1000 → Ev (fun k => spec_l3Choices.l0 k done (n : Int) (many : Int) acc ((n - 0 : Nat) : Int)) (acc ++ chL n many 0 done) := by
   intro done acc _ _
   refine ev_succ ?_
   simp only [spec_l3Choices.l0.eq_2]
   exact ev_neg (by omega) (ev_now (by simp [chL]))
  exact ⟨L, fun done hd hl => choices_f n many hn 0 L done hd hl⟩
 | succ r ih =>
  intro hr
  obtain ⟨ih1, ih2⟩ := ih (by omega)
  have L : ∀ (done : List Int) (acc : List (List Int)), done.length + (r + 1) ≤ n → acc.length + (chL n many (r + 1) done).length ≤ 1000 → Ev (fun k => spec_l3Choices.l0 k done (n : Int) (many : Int) acc ((n - (r + 1) : Nat) : Int)) (acc ++ chL n many (r + 1) done) := by
   intro done acc hd ha
   rw [chL_succ] at ha ⊢
   rw [List.length_append] at ha
   refine ev_succ ?_
   simp only [spec_l3Choices.l0.eq_2]
   rw [wrap_of (x := ((n - (r + 1) : Nat) : Int) + 1) (by omega) (by omega), show ((n - (r + 1) : Nat) : Int) + 1 = ((n - r : Nat) : Int) by omega]
   refine ev_pos (by omega) (ev_bind (own_ev done (by omega)) (ev_pos (by omega) (ev_bind (ih2 (done ++ [((n - (r + 1) : Nat) : Int)]) (by simp; omega) (.inr ⟨done, _, rfl, by omega⟩)) (ev_pos (by omega) ?_))))
   refine ev_eq (ih1 done _ (by omega) (by rw [List.length_append]; omega)) ?_
   rw [List.append_assoc]
  exact ⟨L, fun done hd hl => choices_f n many hn (r + 1) L done hd hl⟩

theorem spec_at_l (l xs : List Int) (hl : xs.length ≤ 7) (hq : ∀ x ∈ xs, 0 ≤ x ∧ x < (l.length : Int)) : ∀ (suf pre out : List Int), xs = pre ++ suf → out.length = pre.length → Ev (fun k => spec_l3At.l0 k l xs out (pre.length : Int)) (out ++ atG l suf) := by
 intro suf
 induction suf with
 | nil =>
  intro pre out e ho
  have h := len_end e
  refine ev_succ ?_
  simp only [spec_l3At.l0.eq_2]
  exact ev_neg (by omega) (ev_now (by simp [atG]))
 | cons c suf ih =>
  intro pre out e ho
  have h := len_mid e
  have hc := hq c (by rw [e]; simp)
  refine ev_succ ?_
  simp only [spec_l3At.l0.eq_2, rd_mid' e]
  rw [wrap_snoc (pre := pre) (c := c) (by omega)]
  refine ev_pos (by omega) (ev_pos (by omega) (ev_pos (by omega) (ev_pos (by omega) (ev_pos (by omega) (ev_eq (ih _ _ (snoc_mid e) (by simp [ho])) ?_)))))
  simp [atG]
theorem spec_at_ev (l xs : List Int) (hl : xs.length ≤ 7) (hq : ∀ x ∈ xs, 0 ≤ x ∧ x < (l.length : Int)) : Ev (fun k => spec_l3At.f k l xs) (atG l xs) := by
 unfold spec_l3At.f
 exact spec_at_l l xs hl hq xs [] [] rfl rfl

/-! ### choose, where the callback never stops it -/
theorem loopG_fold {σ : Type} (f : σ → List Int → σ × Bool) (hf : ∀ s xs, (f s xs).2 = false) (n many : Nat) : ∀ (r : Nat) (done : List Int) (s : σ), loopG f n many r done s = ((chL n many r done).foldl (fun s xs => (f s xs).1) s, false) := by
 intro r
 induction r with
 | zero => intro done s; rfl
 | succ r ih =>
  intro done s
  simp only [loopG, chL, List.foldl_append]
  by_cases h : done.length + 1 = many
  · rw [if_pos h, if_pos h, hf, if_neg (by simp), ih]; rfl
  · rw [if_neg h, if_neg h, ih, if_neg (by simp), ih]
theorem addG_fold {σ : Type} (f : σ → List Int → σ × Bool) (hf : ∀ s xs, (f s xs).2 = false) {n many r : Nat} {done : List Int} {s : σ} : addG f n many r done s = ((chA n many r done).foldl (fun s xs => (f s xs).1) s, false) := by
 unfold addG chA
 by_cases h : done.length = many
 · rw [if_pos h, if_pos h]
   have := hf s done
   simp only [List.foldl_cons, List.foldl_nil]
   rw [← this]
 · rw [if_neg h, if_neg h, loopG_fold f hf]

/-! ### the places of a pattern, as the reference lists them -/
def hit (l p xs : List Int) : Bool := decide (shapeL (atG l xs) = p)
theorem places_l (l p : List Int) (hl : l.length ≤ 7) (hp : p.length ≤ 7) (rows : List (List Int)) (hr : rows.length ≤ 200) (hrow : ∀ xs ∈ rows, xs.length = p.length ∧ ∀ x ∈ xs, 0 ≤ x ∧ x < (l.length : Int)) : ∀ (suf pre out : List (List Int)), rows = pre ++ suf → out.length ≤ pre.length → Ev (fun k => spec_l3Places.l0 k l p out rows (pre.length : Int)) (out ++ suf.filter (hit l p)) := by
 intro suf
 induction suf with
 | nil =>
  intro pre out e ho
  have h := len_end e
  refine ev_succ ?_
  simp only [spec_l3Places.l0.eq_2]
  exact ev_neg (by omega) (ev_now (by simp))
 | cons c suf ih =>
  intro pre out e ho
  have h := len_mid e
  obtain ⟨hc1, hc2⟩ := hrow c (by rw [e]; simp)
  have hrd : rd_L1 rows (pre.length : Int) = c := by rw [e]; simp [rd_L1]
  refine ev_succ ?_
  simp only [spec_l3Places.l0.eq_2, hrd]
  rw [wrap_snoc (pre := pre) (c := c) (by omega)]
  have hal : (atG l c).length ≤ 7 := by simp [atG]; omega
  have hsl : (shapeL (atG l c)).length ≤ 7 := by simp [shapeL]; omega
  refine ev_pos (by omega) (ev_pos (by omega) (ev_bind (spec_at_ev l c (by omega) hc2) (ev_bind (spec_shape_ev _ hal) (ev_bind (same_ev _ p (by omega)) ?_))))
  by_cases hh : shapeL (atG l c) = p
  · refine ev_pos (decide_eq_true hh) (ev_pos (by omega) (ev_eq (ih _ _ (snoc_mid e) (by simp; omega)) ?_))
    rw [List.filter_cons, if_pos (show hit l p c = true from decide_eq_true hh)]; simp
  · refine ev_neg (by simpa using hh) (ev_eq (ih _ _ (snoc_mid e) (by simp; omega)) ?_)
    rw [List.filter_cons, if_neg (show ¬ hit l p c = true by simpa [hit] using hh)]
theorem places_ev (l p : List Int) (hl : l.length ≤ 7) (hp : p.length ≤ 7) : Ev (fun k => spec_l3Places.f k l p) ((chA l.length p.length l.length []).filter (hit l p)) := by
 unfold spec_l3Places.f
 have h1 := (choices_l l.length p.length hl l.length (Nat.le_refl _)).2 [] (by simp) (.inl ⟨rfl, rfl⟩)
 have hb := chA_bound l.length p.length l.length [] hl
 have h2 := places_l l p hl hp (chA l.length p.length l.length []) (by omega) (fun xs hx => chA_mem _ _ xs hx) _ [] [] rfl (Nat.le_refl _)
 rw [List.nil_append] at h2
 exact ev_bind h1 h2

/-! ### countPlaces tells how many places there are -/
theorem fold_cp (l p : List Int) : ∀ (L : List (List Int)) (s : Nat), s + L.length ≤ 1000 → L.foldl (fun s xs => (cpF l p s xs).1) (s : Int) = ((s + (L.filter (hit l p)).length : Nat) : Int) := by
 intro L
 induction L with
 | nil => intro s _; simp
 | cons c L ih =>
  intro s h
  simp only [List.length_cons] at h
  rw [List.foldl_cons]
  by_cases hh : shapeL (atG l c) = p
  · have e1 : (cpF l p (s : Int) c).1 = ((s + 1 : Nat) : Int) := by simp only [cpF]; rw [if_pos hh, wrap_of (by omega) (by omega)]; omega
    rw [e1, ih _ (by omega), List.filter_cons, if_pos (show hit l p c = true from decide_eq_true hh)]
    simp; omega
  · have e1 : (cpF l p (s : Int) c).1 = (s : Int) := by simp only [cpF]; rw [if_neg hh]
    rw [e1, ih _ (by omega), List.filter_cons, if_neg (show ¬ hit l p c = true by simpa [hit] using hh)]
theorem cpG_eq (l p : List Int) (hl : l.length ≤ 7) : cpG l p = (((chA l.length p.length l.length []).filter (hit l p)).length : Int) := by
 unfold cpG
 rw [addG_fold (cpF l p) (fun s xs => rfl)]
 have hb := chA_bound l.length p.length l.length [] hl
 have := fold_cp l p (chA l.length p.length l.length []) 0 (by omega)
 simpa using this

/-! ### l3Goes: the search by shapes of beginnings comes to what all choices tell -/
def inB (l p : List Int) : Bool := (chA l.length p.length l.length []).any (hit l p)
theorem ch_ext (n many : Nat) : ∀ (r : Nat) (done xs : List Int), xs ∈ chL n many r done → ∃ t, xs = done ++ t := by
 intro r
 induction r with
 | zero => intro done xs h; cases h
 | succ r ih =>
  intro done xs h
  rw [chL_succ] at h
  rcases List.mem_append.1 h with h | h
  · unfold chA at h
    split at h
    · exact ⟨_, List.mem_singleton.1 h⟩
    · obtain ⟨t, e⟩ := ih _ xs h
      exact ⟨_, by rw [e, List.append_assoc]⟩
  · exact ih done xs h
theorem chA_ext (n many r : Nat) (done xs : List Int) (h : xs ∈ chA n many r done) : ∃ t, xs = done ++ t := by
 unfold chA at h
 split at h
 · exact ⟨[], by simpa using List.mem_singleton.1 h⟩
 · exact ch_ext n many r done xs h
theorem goes_f (l p : List Int) (hl : l.length ≤ 7) (hp : p.length ≤ 7) (hp1 : 1 ≤ p.length) (hs : shapeL p = p) (r : Nat) (done : List Int) (hd : done.length + r ≤ l.length) (hm : done.length ≤ p.length)
 (L : done.length < p.length → Ev (fun k => spec_l3Goes.l0 k l p (atG l done) ((l.length - r : Nat) : Int)) ((chL l.length p.length r done).any (hit l p))) :
 Ev (fun k => spec_l3Goes.f k l p (atG l done) ((l.length - r : Nat) : Int)) ((chA l.length p.length r done).any (hit l p)) := by
 have ha : (atG l done).length = done.length := by simp [atG]
 refine ev_succ ?_
 simp only [spec_l3Goes.f.eq_2]
 have J : ∀ b : Bool, (b = true → (chA l.length p.length r done).any (hit l p) = false) → (b = false → done.length = p.length → shapeL (atG l done) = shapeL (p.take done.length)) → Ev (fun k => spec_l3Goes.j0 k l p (atG l done) ((l.length - r : Nat) : Int) b) ((chA l.length p.length r done).any (hit l p)) := by
  intro b h1 h2
  refine ev_succ ?_
  simp only [spec_l3Goes.j0.eq_2]
  cases b with
  | true => rw [h1 rfl]; exact ev_pos rfl (ev_now rfl)
  | false =>
   refine ev_neg (by simp) ?_
   by_cases hq : done.length = p.length
   · refine ev_pos (by omega) (ev_now ?_)
     have := h2 rfl hq
     rw [hq, List.take_length, hs] at this
     unfold chA
     rw [if_pos hq]
     simp [hit, this]
   · refine ev_neg (by omega) ?_
     unfold chA
     rw [if_neg hq]
     exact L (by omega)
 by_cases hz : (done.length : Int) > 0
 · refine ev_pos (by omega) (ev_bind (spec_shape_ev _ (by omega)) (ev_pos (by omega) (ev_pos (by omega) ?_)))
   rw [show (((atG l done).length : Int)).toNat = done.length by omega]
   refine ev_bind (spec_shape_ev _ (by simp; omega)) (ev_bind (same_ev _ _ (by simp [shapeL]; omega)) (J _ ?_ ?_))
   · intro hb
     have hb : ¬ shapeL (atG l done) = shapeL (p.take done.length) := by simpa using hb
     rw [List.any_eq_false]
     intro xs hx hh
     obtain ⟨t, e⟩ := chA_ext _ _ _ _ _ hx
     refine hb ?_
     have hh : shapeL (atG l xs) = shapeL p := by rw [hs]; simpa [hit] using hh
     have h3 := shape_take hh done.length
     rw [e, show atG l (done ++ t) = atG l done ++ atG l t by simp [atG], List.take_left' ha] at h3
     exact h3
   · intro hb _
     simpa using hb
 · exact ev_neg (by omega) (J false (by simp) (fun _ h => by omega))
theorem goes_l (l p : List Int) (hl : l.length ≤ 7) (hp : p.length ≤ 7) (hp1 : 1 ≤ p.length) (hs : shapeL p = p) : ∀ (r : Nat), r ≤ l.length →
 (∀ (done : List Int), done.length + r ≤ l.length → done.length < p.length → Ev (fun k => spec_l3Goes.l0 k l p (atG l done) ((l.length - r : Nat) : Int)) ((chL l.length p.length r done).any (hit l p))) := by
 intro r
 induction r with
 | zero =>
  intro hr done hd hm
  refine ev_succ ?_
  simp only [spec_l3Goes.l0.eq_2]
  exact ev_neg (by omega) (ev_now (by simp [chL]))
 | succ r ih =>
  intro hr done hd hm
  have ih1 := ih (by omega)
  have ha : (atG l done).length = done.length := by simp [atG]
  refine ev_succ ?_
  simp only [spec_l3Goes.l0.eq_2]
  rw [wrap_of (x := ((l.length - (r + 1) : Nat) : Int) + 1) (by omega) (by omega), show ((l.length - (r + 1) : Nat) : Int) + 1 = ((l.length - r : Nat) : Int) by omega]
  rw [chL_succ, List.any_append]
  have h2 := goes_f l p hl hp hp1 hs r (done ++ [((l.length - (r + 1) : Nat) : Int)]) (by simp; omega) (by simp; omega) (fun hq => ih1 _ (by simp; omega) hq)
  rw [show atG l (done ++ [((l.length - (r + 1) : Nat) : Int)]) = atG l done ++ [rd l ((l.length - (r + 1) : Nat) : Int)] by simp [atG]] at h2
  refine ev_pos (by omega) (ev_bind (own_ev _ (by omega)) (ev_pos (by omega) (ev_let (ev_pos (by simp; omega) (ev_bind h2 ?_)))))
  by_cases hb : (chA l.length p.length r (done ++ [((l.length - (r + 1) : Nat) : Int)])).any (hit l p) = true
  · exact ev_pos hb (ev_now (by rw [hb]; rfl))
  · exact ev_neg hb (ev_eq (ih1 done (by omega) hm) (by simp only [Bool.not_eq_true] at hb; rw [hb]; rfl))
theorem spec_in_ev (l p : List Int) (hl : l.length ≤ 7) (hp : isOrd p = true) : Ev (fun k => spec_l3In.f k l p) (inB l p) := by
 unfold spec_l3In.f inB
 have h1 := ord_len hp
 have h2 := goes_f l p hl h1.2 h1.1 (shape_ord hp) l.length [] (by simp) (by simp) (fun hq => goes_l l p hl h1.2 h1.1 (shape_ord hp) l.length (Nat.le_refl _) [] (by simp) hq)
 rw [Nat.sub_self] at h2
 exact ev_bind h2 (ev_now rfl)

/-! ### choose, where the callback stops it at the first hit -/
def foundR (o : Option (List Int)) (p : (List Int × Bool) × Bool) : Prop :=
 match o with
 | some xs => p = ((xs, true), true)
 | none => p.1.2 = false ∧ p.2 = false
theorem loopG_find {h : List Int → Bool} {f : List Int × Bool → List Int → (List Int × Bool) × Bool} (hf : ∀ s xs, f s xs = ((xs, h xs), h xs)) (n many : Nat) :
 ∀ (r : Nat) (done : List Int) (s : List Int × Bool), s.2 = false → foundR ((chL n many r done).find? h) (loopG f n many r done s) := by
 intro r
 induction r with
 | zero => intro done s hs; exact ⟨hs, rfl⟩
 | succ r ih =>
  intro done s hs
  simp only [loopG, chL, List.find?_append]
  by_cases hm : done.length + 1 = many
  · rw [if_pos hm, if_pos hm, hf]
    by_cases hh : h (done ++ [((n - (r + 1) : Nat) : Int)]) = true
    · rw [hh]; simp [hh, foundR]
    · have hh : h (done ++ [((n - (r + 1) : Nat) : Int)]) = false := by simpa using hh
      rw [hh]
      simp only [List.find?_cons, hh, List.find?_nil, Bool.false_eq_true, if_false, Option.none_or]
      exact ih done _ rfl
  · rw [if_neg hm, if_neg hm]
    have h1 := ih (done ++ [((n - (r + 1) : Nat) : Int)]) s hs
    cases he : (chL n many r (done ++ [((n - (r + 1) : Nat) : Int)])).find? h with
    | some xs =>
     rw [he] at h1
     simp only [foundR] at h1
     rw [h1]; simp [foundR]
    | none =>
     rw [he] at h1
     obtain ⟨h2, h3⟩ := h1
     rw [h3]
     simp only [Bool.false_eq_true, if_false, Option.none_or]
     exact ih done _ h2
theorem addG_find {h : List Int → Bool} {f : List Int × Bool → List Int → (List Int × Bool) × Bool} (hf : ∀ s xs, f s xs = ((xs, h xs), h xs)) (n many r : Nat) (done : List Int) (s : List Int × Bool) (hs : s.2 = false) : foundR ((chA n many r done).find? h) (addG f n many r done s) := by
 unfold addG chA
 by_cases hm : done.length = many
 · rw [if_pos hm, if_pos hm, hf]
   by_cases hh : h done = true
   · rw [hh]; simp [hh, foundR]
   · have hh : h done = false := by simpa using hh
     rw [hh]; simp [hh, foundR]
 · rw [if_neg hm, if_neg hm]; exact loopG_find hf n many r done s hs
def firstR (l p : List Int) : List Int × Bool :=
 match (chA l.length p.length l.length []).find? (hit l p) with
 | some xs => (xs, true)
 | none => ([], false)
theorem fpR_eq (l p : List Int) : fpR l p = firstR l p := by
 have h := addG_find (h := hit l p) (f := fpF l p) (fun s xs => rfl) l.length p.length l.length [] ([], false) rfl
 unfold fpR fpG firstR
 cases he : (chA l.length p.length l.length []).find? (hit l p) with
 | some xs => rw [he] at h; simp only [foundR] at h; rw [h]; rfl
 | none => rw [he] at h; obtain ⟨h2, _⟩ := h; rw [h2]; rfl
theorem impl_first_ev (l p : List Int) (hl : l.length ≤ 7) (hp : p.length ≤ 7) : Ev (fun _ => impl_firstPlaces.f l p) (firstR l p) := by
 unfold impl_firstPlaces.f
 exact ev_pos ⟨hl, hp⟩ (ev_now (fpR_eq l p))
theorem firstR_len (l p : List Int) : (firstR l p).1.length ≤ p.length := by
 unfold firstR
 cases he : (chA l.length p.length l.length []).find? (hit l p) with
 | some xs => exact Nat.le_of_eq (chA_mem _ _ xs (List.mem_of_find?_eq_some he)).1
 | none => exact Nat.zero_le _

theorem inB_first (l p : List Int) : (firstR l p).2 = inB l p := by
 unfold firstR inB
 cases he : (chA l.length p.length l.length []).find? (hit l p) with
 | some xs =>
  have h1 := List.mem_of_find?_eq_some he
  have h2 := List.find?_some he
  exact (List.any_eq_true.2 ⟨xs, h1, h2⟩).symm
 | none =>
  rw [List.find?_eq_none] at he
  exact (List.any_eq_false.2 he).symm
theorem impl_in_ev (l p : List Int) (hl : l.length ≤ 7) (hp : p.length ≤ 7) : Ev (fun _ => impl_contains.f l p) (inB l p) := by
 unfold impl_contains.f
 exact ev_bind (impl_first_ev l p hl hp) (ev_now (inB_first l p))

theorem good_ev (a b : List Int) (ha : a.length ≤ 140737488351232) (hb : b.length ≤ 140737488351232) : Ev (fun k => spec_l3Good.f k a b) (isOrd a && isOrd b) := by
 unfold spec_l3Good.f
 refine ev_bind (spec_order_ev a ha) ?_
 by_cases h1 : isOrd a = true
 · exact ev_pos h1 (ev_bind (spec_order_ev b hb) (ev_now (by rw [h1]; rfl)))
 · exact ev_neg h1 (ev_now (by simp [h1]))

/-! ### rows in ascending sequence, each once -/
def putL : List (List Int) → List Int → List (List Int)
 | [], x => [x]
 | c :: s, x => if ltL c x = true then c :: putL s x else if c = x then c :: s else x :: c :: s
abbrev Strict (l : List (List Int)) : Prop := l.Pairwise (fun a b => ltL a b = true)
theorem putL_mem : ∀ (rows : List (List Int)) (x y : List Int), y ∈ putL rows x ↔ y = x ∨ y ∈ rows := by
 intro rows
 induction rows with
 | nil => intro x y; simp [putL]
 | cons c s ih =>
  intro x y
  simp only [putL]
  by_cases h1 : ltL c x = true
  · rw [if_pos h1, List.mem_cons, ih, List.mem_cons]
    constructor
    · rintro (h | h | h)
      · exact .inr (.inl h)
      · exact .inl h
      · exact .inr (.inr h)
    · rintro (h | h | h)
      · exact .inr (.inl h)
      · exact .inl h
      · exact .inr (.inr h)
  · rw [if_neg h1]
    by_cases h2 : c = x
    · rw [if_pos h2]; subst h2; simp
    · rw [if_neg h2]; simp
theorem putL_strict : ∀ (rows : List (List Int)) (x : List Int), Strict rows → Strict (putL rows x) := by
 intro rows
 induction rows with
 | nil => intro x _; simp [putL, Strict]
 | cons c s ih =>
  intro x h
  obtain ⟨hc, hs⟩ := List.pairwise_cons.1 h
  simp only [putL]
  by_cases h1 : ltL c x = true
  · rw [if_pos h1]
    refine List.pairwise_cons.2 ⟨fun y hy => ?_, ih x hs⟩
    rcases (putL_mem s x y).1 hy with rfl | hy
    · exact h1
    · exact hc y hy
  · rw [if_neg h1]
    by_cases h2 : c = x
    · rw [if_pos h2]; exact h
    · rw [if_neg h2]
      have h3 : ltL x c = true := by
       cases hq : ltL x c with
       | true => rfl
       | false => exact absurd (ltL_total (by simpa using h1) hq) h2
      refine List.pairwise_cons.2 ⟨fun y hy => ?_, h⟩
      rcases List.mem_cons.1 hy with rfl | hy
      · exact h3
      · exact ltL_trans h3 (hc y hy)
theorem strict_ext : ∀ (a b : List (List Int)), Strict a → Strict b → (∀ y, y ∈ a ↔ y ∈ b) → a = b := by
 intro a
 induction a with
 | nil =>
  intro b _ _ h
  cases b with
  | nil => rfl
  | cons y t => exact absurd ((h y).2 (by simp)) (by simp)
 | cons x s ih =>
  intro b ha hb h
  cases b with
  | nil => exact absurd ((h x).1 (by simp)) (by simp)
  | cons y t =>
   obtain ⟨hx, hs⟩ := List.pairwise_cons.1 ha
   obtain ⟨hy, ht⟩ := List.pairwise_cons.1 hb
   have hxy : x = y := by
    rcases List.mem_cons.1 ((h x).1 (by simp)) with e | e
    · exact e
    · rcases List.mem_cons.1 ((h y).2 (by simp)) with e' | e'
      · exact e'.symm
      · have := ltL_trans (hx y e') (hy x e)
        rw [ltL_irrefl] at this; cases this
   subst hxy
   refine congrArg (x :: ·) (ih t hs ht (fun z => ⟨fun hz => ?_, fun hz => ?_⟩))
   · rcases List.mem_cons.1 ((h z).1 (by simp [hz])) with e | e
     · subst e; have := hx z hz; rw [ltL_irrefl] at this; cases this
     · exact e
   · rcases List.mem_cons.1 ((h z).2 (by simp [hz])) with e | e
     · subst e; have := hy z hz; rw [ltL_irrefl] at this; cases this
     · exact e
theorem thinG_mem : ∀ (s : List (List Int)) (p y : List Int), y ∈ p :: thinG p s ↔ y ∈ p :: s := by
 intro s
 induction s with
 | nil => intro p y; rfl
 | cons c s ih =>
  intro p y
  simp only [thinG]
  by_cases h : c = p
  · rw [if_pos h]
    subst h
    rw [ih c y]
    simp
  · rw [if_neg h]
    have := ih c y
    simp only [List.mem_cons] at this ⊢
    constructor
    · rintro (h1 | h1)
      · exact .inl h1
      · exact .inr (this.1 h1)
    · rintro (h1 | h1)
      · exact .inl h1
      · exact .inr (this.2 h1)
theorem tidyG_mem (rows : List (List Int)) (y : List Int) : y ∈ tidyG rows ↔ y ∈ rows := by
 unfold tidyG
 rw [← (sortG_perm rows).mem_iff]
 cases sortG rows with
 | nil => rfl
 | cons c s => exact thinG_mem s c y
theorem thinG_strict : ∀ (s : List (List Int)) (p : List Int), (p :: s).Pairwise (fun x y => ltL y x = false) → Strict (p :: thinG p s) := by
 intro s
 induction s with
 | nil => intro p _; simp [thinG, Strict]
 | cons c s ih =>
  intro p h
  obtain ⟨hp, hcs⟩ := List.pairwise_cons.1 h
  have hcs' := ih c hcs
  simp only [thinG]
  by_cases e : c = p
  · rw [if_pos e]
    subst e
    exact hcs'
  · rw [if_neg e]
    have hlt : ltL p c = true := by
     cases hq : ltL p c with
     | true => rfl
     | false => exact absurd (ltL_total (hp c (by simp)) hq) e
    refine List.pairwise_cons.2 ⟨fun y hy => ?_, hcs'⟩
    rcases List.mem_cons.1 hy with rfl | hy
    · exact hlt
    · exact ltL_trans hlt ((List.pairwise_cons.1 hcs').1 y hy)
theorem tidyG_strict (rows : List (List Int)) : Strict (tidyG rows) := by
 unfold tidyG
 have h := sortG_sorted rows
 cases hq : sortG rows with
 | nil => simp [compactG, Strict]
 | cons c s => rw [hq] at h; exact thinG_strict s c h
def putAllL (rows : List (List Int)) : List (List Int) := rows.foldl putL []
theorem putAll_gen : ∀ (rows acc : List (List Int)), Strict acc → Strict (rows.foldl putL acc) ∧ ∀ y, y ∈ rows.foldl putL acc ↔ y ∈ acc ∨ y ∈ rows := by
 intro rows
 induction rows with
 | nil => intro acc h; exact ⟨h, fun y => by simp⟩
 | cons c s ih =>
  intro acc h
  obtain ⟨h1, h2⟩ := ih (putL acc c) (putL_strict acc c h)
  refine ⟨h1, fun y => ?_⟩
  rw [List.foldl_cons, h2, putL_mem, List.mem_cons]
  constructor
  · rintro ((h | h) | h)
    · exact .inr (.inl h)
    · exact .inl h
    · exact .inr (.inr h)
  · rintro (h | h | h)
    · exact .inl (.inr h)
    · exact .inl (.inl h)
    · exact .inr h
theorem putAll_tidy (rows : List (List Int)) : rows.foldl putL [] = tidyG rows := by
 obtain ⟨h1, h2⟩ := putAll_gen rows [] (by simp [Strict])
 exact strict_ext _ _ h1 (tidyG_strict rows) (fun y => by rw [h2, tidyG_mem]; simp)

/-! ### l2Before, l2PutOrder -/
theorem ltL_cons (c d : Int) (s t : List Int) : ltL (c :: s) (d :: t) = if c < d then true else if d < c then false else ltL s t := by
 unfold ltL
 have e : lexC (c :: s) (d :: t) = if c < d then -1 else if d < c then 1 else lexC s t := rfl
 rw [e]
 by_cases h1 : c < d
 · simp [h1]
 · by_cases h2 : d < c
   · simp [h1, h2]
   · simp [h1, h2]
theorem before_l (a b : List Int) (ha : a.length ≤ 1000) (hab : a.length = b.length) : ∀ (s t pre q : List Int), a = pre ++ s → b = q ++ t → pre.length = q.length → Ev (fun k => spec_l2Before.l0 k a b (pre.length : Int)) (ltL s t) := by
 intro s
 induction s with
 | nil =>
  intro t pre q e e' h1
  have h := len_end e
  obtain rfl : t = [] := by
   have : b.length = q.length + t.length := by rw [e']; simp
   have : t.length = 0 := by omega
   exact List.length_eq_zero_iff.1 this
  refine ev_succ ?_
  simp only [spec_l2Before.l0.eq_2]
  exact ev_neg (by omega) (ev_now rfl)
 | cons c s ih =>
  intro t pre q e e' h1
  have h := len_mid e
  cases t with
  | nil =>
   have := len_end (xs := b) (pre := q) (by simpa using e')
   omega
  | cons d t =>
  have h' := len_mid e'
  refine ev_succ ?_
  have r1 := rd_mid' e
  have r2 := rd_mid' e'
  rw [← h1] at r2
  simp only [spec_l2Before.l0.eq_2, r1, r2]
  refine ev_pos (by omega) (ev_pos (by omega) (ev_pos (by omega) ?_))
  by_cases hc : c = d
  · refine ev_pos hc ?_
    rw [wrap_snoc (pre := pre) (c := c) (by omega)]
    refine ev_eq (ih t (pre ++ [c]) (q ++ [d]) (snoc_mid e) (snoc_mid e') (by simp [h1])) ?_
    rw [ltL_cons, if_neg (by omega), if_neg (by omega)]
  · refine ev_neg hc (ev_now ?_)
    rw [ltL_cons]
    by_cases h1 : c < d
    · rw [if_pos h1]; simp [h1]
    · rw [if_neg h1, if_pos (by omega)]; simp [h1]
theorem before_ev (a b : List Int) (ha : a.length ≤ 1000) (hab : a.length = b.length) : Ev (fun k => spec_l2Before.f k a b) (ltL a b) := by
 unfold spec_l2Before.f
 exact before_l a b ha hab a b [] [] rfl rfl rfl
theorem put_l (L : Nat) (hL : L ≤ 1000) (rows : List (List Int)) (x : List Int) (hr : rows.length ≤ 1000000) (hx : x.length = L) (hrl : ∀ y ∈ rows, y.length = L) : ∀ (suf pre : List (List Int)), rows = pre ++ suf → Ev (fun k => spec_l2PutOrder.l0 k rows x (pre.length : Int)) (pre ++ putL suf x) := by
 intro suf
 induction suf with
 | nil =>
  intro pre e
  have h := len_end e
  refine ev_succ ?_
  simp only [spec_l2PutOrder.l0.eq_2]
  have ht : rows.take ((pre.length : Int)).toNat = pre := take_mid e
  have hd : rows.drop ((pre.length : Int)).toNat = [] := by rw [e]; simp
  refine ev_neg (by omega) (ev_let (ev_pos (by omega) (ev_pos (by omega) (ev_let ?_))))
  rw [ht, hd]
  refine ev_pos (by simp; omega) (ev_let (ev_let (ev_pos (by simp; omega) (ev_let (ev_let (ev_pos (by simp; omega) (ev_now ?_)))))))
  simp [putL]
 | cons c suf ih =>
  intro pre e
  have h := len_mid e
  have hrd : rd_L1 rows (pre.length : Int) = c := by rw [e]; simp [rd_L1]
  have hcl := hrl c (by rw [e]; simp)
  have ht : rows.take ((pre.length : Int)).toNat = pre := take_mid e
  have hd : rows.drop ((pre.length : Int)).toNat = c :: suf := by rw [e]; simp
  refine ev_succ ?_
  simp only [spec_l2PutOrder.l0.eq_2, hrd]
  refine ev_pos (by omega) (ev_pos (by omega) (ev_bind (before_ev c x (by omega) (by omega)) ?_))
  simp only [putL]
  by_cases h1 : ltL c x = true
  · rw [if_pos h1]
    refine ev_pos h1 ?_
    rw [wrap_snoc (pre := pre) (c := c) (by omega)]
    refine ev_eq (ih (pre ++ [c]) (snoc_mid e)) ?_
    simp
  · rw [if_neg h1]
    refine ev_neg h1 (ev_bind (same_ev c x (by omega)) ?_)
    by_cases h2 : c = x
    · rw [if_pos h2]
      exact ev_pos (by simp [h2]) (ev_now (by rw [e]))
    · rw [if_neg h2]
      refine ev_neg (by simp [h2]) (ev_let (ev_pos (by omega) (ev_let ?_)))
      rw [ht, hd]
      refine ev_pos (by simp; omega) (ev_let (ev_let (ev_pos (by simp; omega) (ev_let (ev_let (ev_pos (by simp; omega) (ev_now ?_)))))))
      simp
theorem put_ev (L : Nat) (hL : L ≤ 1000) (rows : List (List Int)) (x : List Int) (hr : rows.length ≤ 1000000) (hx : x.length = L) (hrl : ∀ y ∈ rows, y.length = L) : Ev (fun k => spec_l2PutOrder.f k rows x) (putL rows x) := by
 unfold spec_l2PutOrder.f
 exact put_l L hL rows x hr hx hrl rows [] rfl
theorem putL_len (rows : List (List Int)) (x : List Int) : (putL rows x).length ≤ rows.length + 1 := by
 induction rows with
 | nil => simp [putL]
 | cons c s ih =>
  simp only [putL]
  split
  · simp; omega
  · split <;> simp

theorem putAll_bound : ∀ (rows acc : List (List Int)), (rows.foldl putL acc).length ≤ acc.length + rows.length := by
 intro rows
 induction rows with
 | nil => intro acc; simp
 | cons c s ih =>
  intro acc
  rw [List.foldl_cons]
  have := ih (putL acc c)
  have := putL_len acc c
  simp only [List.length_cons]; omega
theorem tidy_bound (rows : List (List Int)) : (tidyG rows).length ≤ rows.length := by
 have := putAll_bound rows []
 rw [putAll_tidy] at this
 simpa using this

/-! ### PatternsIn -/
def piL (l : List Int) (m : Nat) : List (List Int) := (chA l.length m l.length []).map (fun xs => shapeL (atG l xs))
def piR (l : List Int) (a : Int) : List (List Int) × Bool := if isOrd l = true ∧ 1 ≤ a ∧ a ≤ 7 then (tidyG (piL l a.toNat), true) else ([], false)
theorem piL_len {l : List Int} {m : Nat} : ∀ y ∈ piL l m, y.length = m := by
 intro y h
 obtain ⟨xs, hx, rfl⟩ := List.mem_map.1 h
 have := (chA_mem _ _ xs hx).1
 simp [shapeL, atG]; omega
theorem piL_count {l : List Int} {m : Nat} (h : l.length ≤ 7) : (piL l m).length ≤ 128 := by
 unfold piL; rw [List.length_map]; exact chA_bound l.length m l.length [] h
theorem pnG_eq (l : List Int) (m : Nat) : pnG l m = piL l m := by
 unfold pnG piL
 rw [addG_fold (pnF l) (fun s xs => rfl)]
 have : ∀ (rows : List (List Int)) (s : List (List Int)), rows.foldl (fun s xs => (pnF l s xs).1) s = s ++ rows.map (fun xs => shapeL (atG l xs)) := by
  intro rows
  induction rows with
  | nil => intro s; simp
  | cons x t ih => intro s; rw [List.foldl_cons, ih]; simp [pnF]
 rw [this]; rfl
theorem pi_tidied {l : List Int} {m : Nat} (hl : l.length ≤ 7) (hm : m ≤ 7) : impl_tidied.f (piL l m) = some (tidyG (piL l m)) := by
 unfold impl_tidied.f
 have := piL_count (m := m) hl
 rw [if_pos ⟨by omega, fun x hx => by have := piL_len x hx; omega, fun x hx y hy => by rw [piL_len x hx, piL_len y hy]⟩]
theorem pi_impl_ev (l : List Int) (a : Int) (hl : l.length ≤ 140737488351232) : Ev (fun k => impl_PatternsIn.f k l a) (piR l a) := by
 unfold impl_PatternsIn.f
 refine ev_pos hl ?_
 by_cases h : isOrd l = true ∧ 1 ≤ a ∧ a ≤ 7
 · have e : piR l a = (tidyG (piL l a.toNat), true) := if_pos h
   rw [e]
   refine ev_pos h ?_
   rw [pnG_eq, pi_tidied (ord_len h.1).2 (by omega)]
   exact ev_now rfl
 · have e : piR l a = ([], false) := if_neg h
   rw [e]
   exact ev_neg h (ev_now rfl)
theorem pi_spec_l (l : List Int) (m : Nat) (hl : l.length ≤ 7) (hm : m ≤ 7) : ∀ (suf pre : List (List Int)), chA l.length m l.length [] = pre ++ suf → Ev (fun k => spec_PatternsIn.l0 k l ((pre.map (fun xs => shapeL (atG l xs))).foldl putL []) (chA l.length m l.length []) (pre.length : Int)) (tidyG (piL l m), true) := by
 have hb := chA_bound l.length m l.length [] hl
 intro suf
 induction suf with
 | nil =>
  intro pre e
  have h := len_end e
  refine ev_succ ?_
  simp only [spec_PatternsIn.l0.eq_2]
  refine ev_neg (by omega) (ev_now ?_)
  rw [putAll_tidy]
  unfold piL
  rw [e, List.append_nil]
 | cons c suf ih =>
  intro pre e
  have h := len_mid e
  have hmem := chA_mem l.length m c (by rw [e]; simp)
  have hrd : rd_L1 (chA l.length m l.length []) (pre.length : Int) = c := by rw [e]; simp [rd_L1]
  have hall : ∀ y ∈ (pre.map (fun xs => shapeL (atG l xs))).foldl putL [], y.length = m := by
   intro y hy
   rcases ((putAll_gen _ [] (by simp)).2 y).1 hy with hy | hy
   · cases hy
   · exact piL_len y (by unfold piL; rw [e, List.map_append]; simp only [List.mem_append]; exact .inl hy)
  have hcnt : ((pre.map (fun xs => shapeL (atG l xs))).foldl putL []).length ≤ 128 := by
   have := putAll_bound (pre.map (fun xs => shapeL (atG l xs))) []
   simp at this
   omega
  have hal : (atG l c).length ≤ 7 := by simp [atG]; omega
  refine ev_succ ?_
  simp only [spec_PatternsIn.l0.eq_2, hrd]
  rw [wrap_snoc (pre := pre) (c := c) (by omega)]
  refine ev_pos (by omega) (ev_pos (by omega) (ev_bind (spec_at_ev l c (by omega) hmem.2) (ev_bind (spec_shape_ev _ hal) (ev_bind (put_ev m (by omega) _ _ (by omega) (by simp [shapeL, atG]; omega) hall) ?_))))
  have := ih (pre ++ [c]) (snoc_mid e)
  rw [List.map_append, List.foldl_append] at this
  exact this
theorem pi_spec_j (l : List Int) (a : Int) (h : isOrd l = true ∧ 1 ≤ a ∧ a ≤ 7) : Ev (fun k => spec_PatternsIn.j0 k l a [] false) (tidyG (piL l a.toNat), true) := by
 have hl := (ord_len h.1).2
 obtain ⟨m, rfl⟩ : ∃ m : Nat, a = (m : Int) := ⟨a.toNat, by omega⟩
 have h1 := (choices_l l.length m hl l.length (Nat.le_refl _)).2 [] (by simp) (.inl ⟨rfl, rfl⟩)
 refine ev_succ ?_
 simp only [spec_PatternsIn.j0.eq_2]
 exact ev_neg (by simp) (ev_bind h1 (pi_spec_l l m hl (by omega) _ [] rfl))
theorem pi_spec_no (l : List Int) (a : Int) : Ev (fun k => spec_PatternsIn.j0 k l a [] true) ([], false) := by
 refine ev_succ ?_
 simp only [spec_PatternsIn.j0.eq_2]
 exact ev_pos (by trivial) (ev_now rfl)
theorem pi_spec_ev (l : List Int) (a : Int) (hl : l.length ≤ 140737488351232) : Ev (fun k => spec_PatternsIn.f k l a) (piR l a) := by
 unfold spec_PatternsIn.f piR
 refine ev_let (ev_bind (spec_order_ev l hl) ?_)
 by_cases h1 : isOrd l = true
 · refine ev_pos h1 (ev_bind (in_ev a 1 7) ?_)
   by_cases h2 : 1 ≤ a ∧ a ≤ 7
   · rw [if_pos ⟨h1, h2⟩]
     have e : (!(decide ((1 : Int) ≤ a) && decide (a ≤ 7))) = false := by simp [h2.1, h2.2]
     rw [e]
     exact pi_spec_j l a ⟨h1, h2⟩
   · rw [if_neg (fun h => h2 h.2)]
     have e : (!(decide ((1 : Int) ≤ a) && decide (a ≤ 7))) = true := by
      by_cases h3 : (1 : Int) ≤ a <;> by_cases h4 : a ≤ 7 <;> simp [h3, h4] at h2 ⊢
     rw [e]
     exact pi_spec_no l a
 · rw [if_neg (fun h => h1 h.1)]
   exact ev_neg h1 (pi_spec_no l a)
theorem piR_ok (l : List Int) (a : Int) : (piR l a).1.length ≤ 1048576 ∧ (piR l a).1.all (fun xs => decide (xs.length ≤ 1048576)) = true := by
 by_cases h : isOrd l = true ∧ 1 ≤ a ∧ a ≤ 7
 · have hq : piR l a = (tidyG (piL l a.toNat), true) := by unfold piR; rw [if_pos h]
   have hb := tidy_bound (piL l a.toNat)
   have hc := piL_count (m := a.toNat) (ord_len h.1).2
   rw [hq]
   refine ⟨by simp only; omega, List.all_eq_true.2 (fun xs hx => ?_)⟩
   have := piL_len xs ((tidyG_mem _ _).1 hx)
   exact decide_eq_true (by omega)
 · have hq : piR l a = ([], false) := by unfold piR; rw [if_neg h]
   rw [hq]; simp

/-! ### FnExactContainsPattern -/
def cnR (a b : List Int) : Bool × Bool := if isOrd a = true ∧ isOrd b = true then (inB a b, true) else (false, false)
theorem spec_cn_ev (a b : List Int) (ha : a.length ≤ 140737488351232) (hb : b.length ≤ 140737488351232) : Ev (fun k => spec_ContainsPattern.f k a b) (cnR a b) := by
 unfold spec_ContainsPattern.f
 refine ev_bind (good_ev a b ha hb) ?_
 by_cases h : isOrd a = true ∧ isOrd b = true
 · exact ev_pos (by simp [h.1, h.2]) (ev_bind (spec_in_ev a b (ord_len h.1).2 h.2) (ev_now (by unfold cnR; rw [if_pos h])))
 · exact ev_neg (by simpa using h) (ev_now (by unfold cnR; rw [if_neg h]))
theorem impl_cn_ev (a b : List Int) (ha : a.length ≤ 140737488351232) (hb : b.length ≤ 140737488351232) : Ev (fun k => impl_ContainsPattern.f k a b) (cnR a b) := by
 unfold impl_ContainsPattern.f
 refine ev_bind (impl_order_ev a ha) ?_
 by_cases h1 : isOrd a = true
 · refine ev_pos h1 (ev_bind (impl_order_ev b hb) ?_)
   by_cases h2 : isOrd b = true
   · exact ev_pos h2 (ev_bind (impl_in_ev a b (ord_len h1).2 (ord_len h2).2) (ev_now (by unfold cnR; rw [if_pos ⟨h1, h2⟩])))
   · exact ev_neg h2 (ev_now (by unfold cnR; rw [if_neg (fun h => h2 h.2)]))
 · exact ev_neg h1 (ev_now (by unfold cnR; rw [if_neg (fun h => h1 h.1)]))
/-! ### FnExactFirstPlaces -/
def fplR (a b : List Int) : List Int × Bool := if isOrd a = true ∧ isOrd b = true then firstR a b else ([], false)
theorem spec_fp_ev (a b : List Int) (ha : a.length ≤ 140737488351232) (hb : b.length ≤ 140737488351232) : Ev (fun k => spec_FirstPlaces.f k a b) (fplR a b) := by
 unfold spec_FirstPlaces.f fplR
 refine ev_bind (good_ev a b ha hb) ?_
 by_cases h : isOrd a = true ∧ isOrd b = true
 · rw [if_pos h]
   refine ev_pos (by simp [h.1, h.2]) (ev_bind (places_ev a b (ord_len h.1).2 (ord_len h.2).2) ?_)
   have hh := List.head?_filter (p := hit a b) (l := chA a.length b.length a.length [])
   unfold firstR
   cases hf : (chA a.length b.length a.length []).filter (hit a b) with
   | nil =>
    rw [hf] at hh
    rw [← hh]
    exact ev_pos (by simp) (ev_now rfl)
   | cons c t =>
    rw [hf] at hh
    rw [← hh]
    exact ev_neg (by simp; omega) (ev_pos (by simp) (ev_now rfl))
 · rw [if_neg h]
   exact ev_neg (by simpa using h) (ev_now rfl)
theorem impl_fp_ev (a b : List Int) (ha : a.length ≤ 140737488351232) (hb : b.length ≤ 140737488351232) : Ev (fun k => impl_FirstPlaces.f k a b) (fplR a b) := by
 unfold impl_FirstPlaces.f fplR
 refine ev_bind (impl_order_ev a ha) ?_
 by_cases h1 : isOrd a = true
 · refine ev_pos h1 (ev_bind (impl_order_ev b hb) ?_)
   by_cases h2 : isOrd b = true
   · exact ev_pos h2 (ev_bind (impl_first_ev a b (ord_len h1).2 (ord_len h2).2) (ev_now (by rw [if_pos ⟨h1, h2⟩])))
   · exact ev_neg h2 (ev_now (by rw [if_neg (fun h => h2 h.2)]))
 · exact ev_neg h1 (ev_now (by rw [if_neg (fun h => h1 h.1)]))
/-! ### FnExactCountPlaces -/
def cplR (a b : List Int) : Int × Bool := if isOrd a = true ∧ isOrd b = true then (cpG a b, true) else (0, false)
theorem spec_cp_ev (a b : List Int) (ha : a.length ≤ 140737488351232) (hb : b.length ≤ 140737488351232) : Ev (fun k => spec_CountPlaces.f k a b) (cplR a b) := by
 unfold spec_CountPlaces.f cplR
 by_cases h1 : isOrd a = true
 · by_cases h2 : isOrd b = true
   · rw [if_pos ⟨h1, h2⟩]
     refine ev_bind (a := true) ?_ (ev_pos rfl (ev_bind (places_ev a b (ord_len h1).2 (ord_len h2).2) (ev_now (by rw [cpG_eq a b (ord_len h1).2]))))
     unfold spec_l3Good.f
     exact ev_bind (spec_order_ev a ha) (ev_pos h1 (ev_bind (spec_order_ev b hb) (ev_now h2)))
   · rw [if_neg (fun h => h2 h.2)]
     refine ev_bind (a := false) ?_ (ev_neg (by simp) (ev_now rfl))
     unfold spec_l3Good.f
     exact ev_bind (spec_order_ev a ha) (ev_pos h1 (ev_bind (spec_order_ev b hb) (ev_now (by simpa using h2))))
 · rw [if_neg (fun h => h1 h.1)]
   refine ev_bind (a := false) ?_ (ev_neg (by simp) (ev_now rfl))
   unfold spec_l3Good.f
   exact ev_bind (spec_order_ev a ha) (ev_neg h1 (ev_now rfl))
theorem impl_cp_ev (a b : List Int) (ha : a.length ≤ 140737488351232) (hb : b.length ≤ 140737488351232) : Ev (fun k => impl_CountPlaces.f k a b) (cplR a b) := by
 unfold impl_CountPlaces.f
 refine ev_bind (impl_order_ev a ha) ?_
 by_cases h1 : isOrd a = true
 · refine ev_pos h1 (ev_bind (impl_order_ev b hb) ?_)
   by_cases h2 : isOrd b = true
   · refine ev_pos h2 (ev_bind (a := cpG a b) ?_ (ev_now (by unfold cplR; rw [if_pos ⟨h1, h2⟩])))
     unfold impl_countPlaces.f
     exact ev_pos ⟨(ord_len h1).2, (ord_len h2).2⟩ (ev_now rfl)
   · exact ev_neg h2 (ev_now (by unfold cplR; rw [if_neg (fun h => h2 h.2)]))
 · exact ev_neg h1 (ev_now (by unfold cplR; rw [if_neg (fun h => h1 h.1)]))
/-! ### FnExactFewestDrops -/
def okB (l p xs : List Int) : Bool := !inB (woG l xs) p
def dropsGo (l p : List Int) : Nat → Nat → List Int × Bool
 | 0, _ => ([], false)
 | d + 1, many => match (chA l.length many l.length []).find? (okB l p) with
  | some xs => (xs, true)
  | none => dropsGo l p d (many + 1)
theorem dropsGo_len (l p : List Int) : ∀ (d many : Nat), (dropsGo l p d many).1.length ≤ many + d := by
 intro d
 induction d with
 | zero => intro m; simp [dropsGo]
 | succ d ih =>
  intro m
  simp only [dropsGo]
  cases he : (chA l.length m l.length []).find? (okB l p) with
  | some xs => have := (chA_mem _ _ xs (List.mem_of_find?_eq_some he)).1; simp only; omega
  | none => have := ih (m + 1); simp only; omega
theorem fw_drops (l p : List Int) : ∀ (d many : Nat) (s : List Int × Bool), s.2 = false → (dropsGo l p d many).2 = true → fwGo l p d many s = dropsGo l p d many := by
 intro d
 induction d with
 | zero => intro many s _ h; simp [dropsGo] at h
 | succ d ih =>
  intro many s hs h
  have hf := addG_find (h := okB l p) (f := fwF l p) (fun s xs => by simp only [fwF, okB, fpR_eq, inB_first]) l.length many l.length [] s hs
  simp only [dropsGo] at h ⊢
  simp only [fwGo]
  rw [if_neg (by rw [hs]; simp)]
  cases he : (chA l.length many l.length []).find? (okB l p) with
  | some xs =>
   rw [he] at hf
   simp only [foundR] at hf
   rw [hf]
   cases d with
   | zero => rfl
   | succ d => simp only [fwGo, if_true]
  | none =>
   rw [he] at hf h
   obtain ⟨h2, _⟩ := hf
   exact ih _ _ h2 h
theorem dropsGo_succ (l p : List Int) (d many : Nat) : dropsGo l p (d + 1) many = (match (chA l.length many l.length []).find? (okB l p) with
 | some xs => (xs, true)
 | none => dropsGo l p d (many + 1)) := rfl
theorem drops_more (l p : List Int) : ∀ (d many : Nat), (dropsGo l p d many).2 = true → dropsGo l p (d + 1) many = dropsGo l p d many := by
 intro d
 induction d with
 | zero => intro many h; simp [dropsGo] at h
 | succ d ih =>
  intro many h
  rw [dropsGo_succ] at h
  rw [dropsGo_succ l p (d + 1) many, dropsGo_succ l p d many]
  cases he : (chA l.length many l.length []).find? (okB l p) with
  | some xs => rfl
  | none => rw [he] at h; exact ih _ h
theorem woGo_le (xs : List Int) : ∀ (s : List Int) (i : Int), (woGo xs s i).length ≤ s.length := by
 intro s
 induction s with
 | nil => intro i; exact Nat.le_refl _
 | cons c s ih => intro i; have := ih (i + 1); simp only [woGo]; split <;> simp <;> omega
theorem woGo_len_eq (xs : List Int) : ∀ (s t : List Int) (i : Int), s.length = t.length → (woGo xs s i).length = (woGo xs t i).length := by
 intro s
 induction s with
 | nil => intro t i h; cases t with
  | nil => rfl
  | cons _ _ => simp at h
 | cons c s ih =>
  intro t i h
  cases t with
  | nil => simp at h
  | cons d t =>
   have := ih t (i + 1) (by simpa using h)
   simp only [woGo]
   split <;> simp [this]
theorem one_left : ∀ i : Fin 7, ((chA (i.val + 1) i.val (i.val + 1) []).all (fun xs => (woG (List.replicate (i.val + 1) 0) xs).length == 1) && !(chA (i.val + 1) i.val (i.val + 1) []).isEmpty) = true := by decide +kernel
theorem in_one (x : Int) (p : List Int) (hp : 2 ≤ p.length) : inB [x] p = false := by
 unfold inB
 have e : chA [x].length p.length [x].length [] = [] := by
  unfold chA
  rw [if_neg (by simp; omega)]
  simp only [List.length_cons, List.length_nil, chL]
  rw [if_neg (by omega)]; rfl
 rw [e]; rfl
/-- With one number left, the pattern is avoided. -/
theorem last_try (l p : List Int) (h1 : 1 ≤ l.length) (h7 : l.length ≤ 7) (hp : 2 ≤ p.length) : ∃ xs, (chA l.length (l.length - 1) l.length []).find? (okB l p) = some xs := by
 have h := one_left ⟨l.length - 1, by omega⟩
 simp only [Nat.sub_add_cancel h1, Bool.and_eq_true, List.all_eq_true, Bool.not_eq_true'] at h
 obtain ⟨ha, hn⟩ := h
 have ok : ∀ xs ∈ chA l.length (l.length - 1) l.length [], okB l p xs = true := by
  intro xs hx
  have h2 := ha xs hx
  simp only [beq_iff_eq] at h2
  have h3 : (woG l xs).length = 1 := by rw [← h2]; exact woGo_len_eq xs _ _ 0 (by simp)
  obtain ⟨y, hy⟩ := List.length_eq_one_iff.1 h3
  unfold okB
  rw [hy, in_one y p hp]; rfl
 cases hc : chA l.length (l.length - 1) l.length [] with
 | nil => rw [hc] at hn; simp at hn
 | cons c t =>
  have := ok c (by rw [hc]; simp)
  exact ⟨c, by simp [this]⟩
theorem drops_found (l p : List Int) (h1 : 1 ≤ l.length) (h7 : l.length ≤ 7) (hp : 2 ≤ p.length) : ∀ (d many : Nat), many + d = l.length → 1 ≤ d → (dropsGo l p d many).2 = true := by
 intro d
 induction d with
 | zero => intro many _ h; omega
 | succ d ih =>
  intro many e _
  rw [dropsGo]
  cases he : (chA l.length many l.length []).find? (okB l p) with
  | some xs => rfl
  | none =>
   by_cases hd : d = 0
   · obtain ⟨xs, hx⟩ := last_try l p h1 h7 hp
     rw [show l.length - 1 = many by omega, he] at hx
     cases hx
   · exact ih (many + 1) (by omega) (by omega)
def fdR (a b : List Int) : List Int × Bool := if isOrd a = true ∧ isOrd b = true ∧ 2 ≤ b.length then dropsGo a b a.length 0 else ([], false)
theorem fdR_len (a b : List Int) : (fdR a b).1.length ≤ 7 := by
 unfold fdR
 split
 · rename_i h; have := dropsGo_len a b a.length 0; have := (ord_len h.1).2; omega
 · simp
theorem impl_fd_ev (a b : List Int) (ha : a.length ≤ 140737488351232) (hb : b.length ≤ 140737488351232) : Ev (fun _ => impl_FewestDrops.f a b) (fdR a b) := by
 unfold impl_FewestDrops.f
 refine ev_pos ⟨ha, hb⟩ (ev_now ?_)
 unfold fdR
 by_cases h : isOrd a = true ∧ isOrd b = true ∧ 2 ≤ b.length
 · rw [if_pos h, if_pos h]
   have ho := ord_len h.1
   have hf := drops_found a b ho.1 ho.2 h.2.2 a.length 0 (by omega) ho.1
   have hm := drops_more a b a.length 0 hf
   unfold fwG
   rw [fw_drops a b (a.length + 1) 0 _ rfl (by rw [hm]; exact hf), hm]
 · rw [if_neg h, if_neg h]
/-! ### the reference -/
def otGo (xs : List Int) : Nat → Int → List Int
 | 0, _ => []
 | d + 1, i => if i ∈ xs then otGo xs d (i + 1) else i :: otGo xs d (i + 1)
theorem otGo_len (xs : List Int) : ∀ (d : Nat) (i : Int), (otGo xs d i).length ≤ d := by
 intro d
 induction d with
 | zero => intro i; simp [otGo]
 | succ d ih => intro i; have := ih (i + 1); simp only [otGo]; split <;> simp <;> omega
theorem otGo_mem (xs : List Int) : ∀ (d : Nat) (i x : Int), x ∈ otGo xs d i → i ≤ x ∧ x < i + d := by
 intro d
 induction d with
 | zero => intro i x h; simp [otGo] at h
 | succ d ih =>
  intro i x h
  simp only [otGo] at h
  split at h
  · have := ih _ _ h; omega
  · rcases List.mem_cons.1 h with rfl | h
    · omega
    · have := ih _ _ h; omega
theorem others_l (n : Nat) (hn : n ≤ 7) (xs : List Int) (hx : xs.length ≤ 7) : ∀ (d j : Nat) (out : List Int), j + d = n → out.length ≤ j → Ev (fun k => spec_l3Others.l0 k xs (n : Int) out (j : Int)) (out ++ otGo xs d (j : Int)) := by
 intro d
 induction d with
 | zero =>
  intro j out e ho
  refine ev_succ ?_
  simp only [spec_l3Others.l0.eq_2]
  exact ev_neg (by omega) (ev_now (by simp [otGo]))
 | succ d ih =>
  intro j out e ho
  refine ev_succ ?_
  simp only [spec_l3Others.l0.eq_2]
  rw [wrap_of (x := (j : Int) + 1) (by omega) (by omega)]
  refine ev_pos (by omega) (ev_bind (has_ev xs (j : Int) (by omega)) ?_)
  by_cases hc : (j : Int) ∈ xs
  · refine ev_pos (by simp [hc]) (ev_eq (ih (j + 1) out (by omega) (by omega)) ?_)
    simp [otGo, hc]
  · refine ev_neg (by simp [hc]) (ev_pos (by omega) (ev_eq (ih (j + 1) _ (by omega) (by simp; omega)) ?_))
    simp [otGo, hc]
theorem others_at (l xs : List Int) : ∀ (suf pre : List Int), l = pre ++ suf → atG l (otGo xs suf.length (pre.length : Int)) = woGo xs suf (pre.length : Int) := by
 intro suf
 induction suf with
 | nil => intro pre e; rfl
 | cons c suf ih =>
  intro pre e
  have h := ih (pre ++ [c]) (snoc_mid e)
  rw [show ((pre ++ [c]).length : Int) = (pre.length : Int) + 1 by simp] at h
  simp only [List.length_cons, otGo, woGo]
  split
  · exact h
  · rw [← h]; simp [atG, rd_mid' e]
theorem alike_shape (y : List Int) : AlikeL (shapeL y) y := by
 refine ⟨shape_length y, fun i j hi hj => ?_⟩
 rw [shape_length] at hi hj
 rw [shape_getD hi, shape_getD hj, lessN_lt_iff (getD_mem hi) (getD_mem hj)]
 omega
theorem alike_at {a b : List Int} (h : AlikeL a b) (xs : List Int) (hx : ∀ x ∈ xs, 0 ≤ x ∧ x < (a.length : Int)) : AlikeL (atG a xs) (atG b xs) := by
 refine ⟨by simp [atG], fun i j hi hj => ?_⟩
 have hi' : i < xs.length := by simpa [atG] using hi
 have hj' : j < xs.length := by simpa [atG] using hj
 have e : ∀ (l : List Int) (i : Nat), i < xs.length → (atG l xs).getD i 0 = l.getD (xs.getD i 0).toNat 0 := fun l i hi => by
  simp [atG, rd, List.getD_eq_getElem?_getD, List.getElem?_eq_getElem hi]
 rw [e a i hi', e a j hj', e b i hi', e b j hj']
 have m1 := hx _ (getD_mem hi')
 have m2 := hx _ (getD_mem hj')
 exact h.2 _ _ (by omega) (by omega)
theorem in_shape (y p : List Int) : inB (shapeL y) p = inB y p := by
 unfold inB
 rw [shape_length]
 rw [Bool.eq_iff_iff, List.any_eq_true, List.any_eq_true]
 have key : ∀ xs ∈ chA y.length p.length y.length [], hit (shapeL y) p xs = hit y p xs := by
  intro xs hx
  have hm := (chA_mem _ _ xs hx).2
  unfold hit
  rw [shape_of_alike (alike_at (alike_shape y) xs (by rw [shape_length]; exact hm))]
 constructor
 · rintro ⟨xs, hx, h⟩; exact ⟨xs, hx, by rw [← key xs hx]; exact h⟩
 · rintro ⟨xs, hx, h⟩; exact ⟨xs, hx, by rw [key xs hx]; exact h⟩
theorem spec_fd_in (a b : List Int) (ho : isOrd a = true) (hb : isOrd b = true) (m : Nat) (hm : m ≤ 7) (rows : List (List Int)) (hr : rows.length ≤ 200) (hrow : ∀ xs ∈ rows, xs.length = m) (R : List Int × Bool) (hR : rows.find? (okB a b) = none → Ev (fun k => spec_FewestDrops.l0 k a b ((m : Int) + 1)) R) :
 ∀ (suf pre : List (List Int)), rows = pre ++ suf → (suf.find? (okB a b) = none → rows.find? (okB a b) = none) → Ev (fun k => spec_FewestDrops.l1 k a b (m : Int) rows (pre.length : Int)) (match suf.find? (okB a b) with | some xs => (xs, true) | none => R) := by
 have h7 := (ord_len ho).2
 intro suf
 induction suf with
 | nil =>
  intro pre e hq
  have h := len_end e
  refine ev_succ ?_
  simp only [spec_FewestDrops.l1.eq_2]
  rw [wrap_of (x := (m : Int) + 1) (by omega) (by omega)]
  exact ev_neg (by omega) (hR (hq rfl))
 | cons c suf ih =>
  intro pre e hq
  have h := len_mid e
  have hc := hrow c (by rw [e]; simp)
  have hrd : rd_L1 rows (pre.length : Int) = c := by rw [e]; simp [rd_L1]
  have hol := otGo_len c a.length 0
  have hot : Ev (fun k => spec_l3Others.f k c (a.length : Int)) (otGo c a.length 0) := by
   unfold spec_l3Others.f
   have := others_l a.length h7 c (by omega) a.length 0 [] (by omega) (Nat.le_refl _)
   simpa using this
  have hat : atG a (otGo c a.length 0) = woG a c := others_at a c a [] rfl
  have hwl : (woG a c).length ≤ 7 := Nat.le_trans (woGo_le c a 0) h7
  refine ev_succ ?_
  simp only [spec_FewestDrops.l1.eq_2, hrd]
  refine ev_pos (by omega) (ev_pos (by omega) (ev_bind hot (ev_bind (spec_at_ev a _ (by omega) (fun x hx => by have := otGo_mem c a.length 0 x hx; omega)) ?_)))
  rw [hat]
  refine ev_bind (spec_shape_ev _ hwl) (ev_bind (spec_in_ev (shapeL (woG a c)) b (by rw [shape_length]; exact hwl) hb) ?_)
  rw [in_shape, wrap_snoc (pre := pre) (c := c) (by omega)]
  by_cases hi : inB (woG a c) b = true
  · have hk : okB a b c = false := by unfold okB; rw [hi]; rfl
    refine ev_pos hi (ev_eq (ih _ (snoc_mid e) (fun hh => hq (by rw [List.find?_cons, hk]; exact hh))) ?_)
    rw [List.find?_cons, hk]
  · have hk : okB a b c = true := by unfold okB; simpa using hi
    refine ev_neg hi (ev_now ?_)
    rw [List.find?_cons, hk]
theorem spec_fd_l (a b : List Int) (ho : isOrd a = true) (hb : isOrd b = true) : ∀ (d m : Nat), m + d = a.length → Ev (fun k => spec_FewestDrops.l0 k a b (m : Int)) (dropsGo a b d m) := by
 have h7 := (ord_len ho).2
 intro d
 induction d with
 | zero =>
  intro m e
  refine ev_succ ?_
  simp only [spec_FewestDrops.l0.eq_2]
  exact ev_neg (by omega) (ev_now rfl)
 | succ d ih =>
  intro m e
  have h1 := (choices_l a.length m h7 a.length (Nat.le_refl _)).2 [] (by simp) (.inl ⟨rfl, rfl⟩)
  have hbd := chA_bound a.length m a.length [] h7
  refine ev_succ ?_
  simp only [spec_FewestDrops.l0.eq_2]
  refine ev_pos (by omega) (ev_bind h1 ?_)
  have := spec_fd_in a b ho hb m (by omega) (chA a.length m a.length []) (by omega) (fun xs hx => (chA_mem _ _ xs hx).1) (dropsGo a b d (m + 1)) (fun _ => ih (m + 1) (by omega)) _ [] rfl (fun h => h)
  exact this
theorem spec_fd_ev (a b : List Int) (ha : a.length ≤ 140737488351232) (hb : b.length ≤ 140737488351232) : Ev (fun k => spec_FewestDrops.f k a b) (fdR a b) := by
 unfold spec_FewestDrops.f
 refine ev_bind (good_ev a b ha hb) ?_
 by_cases h : isOrd a = true ∧ isOrd b = true
 · have hl := ord_len h.2
   refine ev_pos (by simp [h.1, h.2]) (ev_succ ?_)
   simp only [spec_FewestDrops.j0.eq_2]
   unfold fdR
   by_cases h1 : b.length = 1
   · rw [if_neg (fun hh => by omega)]
     exact ev_pos (by simp [h1]) (ev_now rfl)
   · rw [if_pos ⟨h.1, h.2, by omega⟩]
     exact ev_neg (by simp; omega) (spec_fd_l a b h.1 h.2 a.length 0 (by omega))
 · refine ev_neg (by simpa using h) (ev_succ ?_)
   simp only [spec_FewestDrops.j0.eq_2]
   exact ev_pos trivial (ev_now (by unfold fdR; rw [if_neg (fun hh => h ⟨hh.1, hh.2.1⟩)]))
theorem nodup_len : ∀ (a b : List Int), a.Nodup → (∀ x ∈ a, x ∈ b) → a.length ≤ b.length := by
 intro a
 induction a with
 | nil => intro b _ _; simp
 | cons x a ih =>
  intro b hn hs
  rw [List.nodup_cons] at hn
  have hx := hs x (by simp)
  have := ih (b.erase x) hn.2 (fun y hy => (List.mem_erase_of_ne (fun e => hn.1 (by subst e; exact hy))).2 (hs y (by simp [hy])))
  rw [List.length_erase_of_mem hx] at this
  have := List.length_pos_of_mem hx
  simp; omega
theorem lessN_lt_len {x : Int} {l : List Int} (h : x ∈ l) : lessN x l < l.length := by
 rcases Nat.lt_or_ge (lessN x l) l.length with h1 | h1
 · exact h1
 · have h2 := lessN_le x l
   have h3 : l.countP (fun y => decide (y < x)) = l.length := by unfold lessN at h1 h2; omega
   have := (List.countP_eq_length.1 h3) x h
   simp at this
/-! ### what the law draws -/
theorem vcut_ok {l : List Int} (hl : byteL l) (a : Int) (h1 : 1 ≤ a) (h2 : a ≤ 2) : ∃ d, laws_vCut.f l a = some d ∧ byteL d := by
 have hlen := hl.1
 unfold laws_vCut.f
 by_cases h : a > (l.length : Int)
 · rw [if_pos h]
   simp only [Option.bind_some, List.length_nil, Nat.zero_add, List.nil_append]
   rw [if_pos (by omega), if_pos (by omega)]
   have hd : l.drop ((l.length : Int)).toNat = [] := by rw [List.drop_eq_nil_iff]; omega
   rw [hd, if_pos (by simp)]
   simp only [List.length_nil, List.nil_append]
   rw [if_pos (by omega)]
   refine ⟨_, rfl, ⟨by simp, fun x hx => ?_⟩⟩
   simp at hx; omega
 · rw [if_neg h]
   simp only [Option.bind_some, List.length_nil, Nat.zero_add, List.nil_append]
   have hdl : (l.drop a.toNat).length + 1 ≤ 65536 := by rw [List.length_drop]; omega
   rw [if_pos (by omega), if_pos (by omega), if_pos (by omega), if_pos (by omega)]
   refine ⟨_, rfl, ⟨by rw [List.length_append]; simp at hdl ⊢; omega, fun x hx => ?_⟩⟩
   rcases List.mem_append.1 hx with hx | hx
   · exact hl.2 x (List.mem_of_mem_drop hx)
   · simp at hx; omega
theorem cutpick {l : List Int} (hl : byteL l) (s1 s2 b d n : Int) (xs : List Int) (h0 : 0 ≤ s1) (h1 : s1 ≤ 700000) (hb : 1 ≤ b) (hd : 1 ≤ d) (hn : b + 23 / d ≤ (xs.length : Int)) (hx : xs.length ≤ 200) :
 ∃ p t1 t2 y u1 u2, spec_l1Cur_pick.f l s1 s2 24 = some (p, t1, t2) ∧ 0 ≤ wrap64 (b + wrap64 (Int.tdiv p d)) ∧ wrap64 (b + wrap64 (Int.tdiv p d)) ≤ (xs.length : Int) ∧ spec_l1Cur_among.f l t1 t2 (xs.take (wrap64 (b + wrap64 (Int.tdiv p d))).toNat) = some (y, u1, u2) ∧ y ∈ xs ∧ 0 ≤ u1 ∧ u1 ≤ s1 + 4 := by
 obtain ⟨p, t1, t2, hp, hp0, hp1, hs, hs'⟩ := pick_any hl s1 s2 24 h0 (by omega) (by omega) (by omega)
 have e : Int.tdiv p d = p / d := Int.tdiv_eq_ediv_of_nonneg hp0
 have hq0 : 0 ≤ p / d := Int.ediv_nonneg hp0 (by omega)
 have hq1 : p / d ≤ 23 / d := Int.ediv_le_ediv (by omega) (by omega)
 have hw : wrap64 (b + wrap64 (Int.tdiv p d)) = b + p / d := by
  rw [e, wrap_of (x := p / d) (by omega) (by omega), wrap_of (by omega) (by omega)]
 obtain ⟨y, u1, u2, hy, hm, hu, hu'⟩ := among_ok hl t1 t2 (xs.take (b + p / d).toNat) (by omega) (by omega) (by rw [List.length_take]; omega) (by rw [List.length_take]; omega)
 refine ⟨p, t1, t2, y, u1, u2, hp, by omega, by omega, by rw [hw]; exact hy, List.mem_of_mem_take hm, by omega, by omega⟩
def pat11 : List (List Int) := [[2, 3, 1], [1, 2, 3], [3, 2, 1], [1, 3, 2], [2, 1], [1, 2], [2, 1, 3], [3, 1, 2], [2, 4, 1, 3], [1, 3, 2, 4], [1]]
theorem pattern3_ok {l : List Int} (hl : byteL l) (s1 s2 : Int) (h0 : 0 ≤ s1) (h1 : s1 ≤ 600000) : ∃ v, Ev (fun k => spec_l1Cur_pattern3.f k l s1 s2) v ∧ v.1.length ≤ 8 ∧ 0 ≤ v.2.1 ∧ v.2.1 ≤ s1 + 30 := by
 obtain ⟨b, s3, s4, hb, hs, hs'⟩ := one_any hl s1 s2 5 h0 (by omega) (by omega) (by omega)
 cases b with
 | true =>
  obtain ⟨v, hv, hv8, hv0, hv1⟩ := order_ok hl s3 s4 (by omega) (by omega)
  refine ⟨v, ?_, hv8, hv0, by omega⟩
  unfold spec_l1Cur_pattern3.f
  refine ev_let ?_
  rw [hb]
  exact ev_let (ev_pos rfl (ev_bind hv (ev_now rfl)))
 | false =>
  obtain ⟨p, s5, s6, hp, hp0, hp1, hu, hu'⟩ := pick_any hl s3 s4 11 (by omega) (by omega) (by omega) (by omega)
  have hi : p.toNat < pat11.length := by simp [pat11]; omega
  have hx : (rd_L1 pat11 p).length ≤ 8 := by
   have e : rd_L1 pat11 p = pat11[p.toNat] := by simp [rd_L1, List.getD_eq_getElem?_getD, List.getElem?_eq_getElem hi]
   rw [e]
   have : ∀ x ∈ pat11, x.length ≤ 8 := by decide
   exact this _ (List.getElem_mem hi)
  have how := own_ok (rd_L1 pat11 p) (by omega)
  refine ⟨(rd_L1 pat11 p, s5, s6), ?_, hx, by simp only; omega, by simp only; omega⟩
  unfold spec_l1Cur_pattern3.f
  refine ev_let ?_
  rw [hb]
  refine ev_let (ev_neg (by simp) ?_)
  have hp' : spec_l1Cur_pick.f l s3 s4 ((pat11.length : Nat) : Int) = some (p, s5, s6) := hp
  show Ev (fun k => (spec_l1Cur_pick.f l s3 s4 ((pat11.length : Nat) : Int)).bind _) _
  rw [hp']
  refine ev_let (ev_pos hp0 (ev_pos hp1 ?_))
  show Ev (fun k => (spec_l1Own.f (rd_L1 pat11 p)).bind _) _
  rw [how]
  exact ev_let (ev_now rfl)
theorem drawFP_ok {l : List Int} (hl : byteL l) : ∃ o p, Ev (fun k => spec_DrawFirstPlaces.f k l) (o, p) ∧ o.length ≤ 8 ∧ p.length ≤ 8 := by
 obtain ⟨o, ho, ho8, ho0, ho1⟩ := order_ok hl 0 0 (by omega) (by omega)
 obtain ⟨v, hv, hv8, hv0, hv1⟩ := pattern3_ok hl o.2.1 o.2.2 ho0 (by omega)
 refine ⟨o.1, v.1, ?_, ho8, hv8⟩
 unfold spec_DrawFirstPlaces.f spec_DrawContainsPattern.f
 exact ev_bind (ev_bind ho (ev_bind hv (ev_now rfl))) (ev_now rfl)
theorem drawPN_ok {l : List Int} (hl : byteL l) : ∃ u k, Ev (fun i => spec_DrawPatternsIn.f i l) (u, k) ∧ u.length ≤ 8 := by
 obtain ⟨o, ho, ho8, ho0, ho1⟩ := order_ok hl 0 0 (by omega) (by omega)
 obtain ⟨p, t1, t2, y, u1, u2, hp, w0, w1, hy, hm, hu0, hu1⟩ := cutpick hl o.2.1 o.2.2 5 11 7 [2, 3, 1, 4, 7, 0, 8] ho0 (by omega) (by omega) (by omega) (by decide) (by decide)
 refine ⟨o.1, y, ?_, ho8⟩
 unfold spec_DrawPatternsIn.f
 refine ev_bind ho (ev_let ?_)
 rw [hp]
 refine ev_let (ev_pos w0 (ev_pos w1 ?_))
 rw [hy]
 exact ev_let (ev_now rfl)
theorem hasx_l (l : List Int) (x : Int) (hl : l.length ≤ 1000) : ∀ (suf pre : List Int), l = pre ++ suf → ∃ b, Ev (fun k => spec_l1Has.l0 k l x (pre.length : Int)) b := by
 intro suf
 induction suf with
 | nil =>
  intro pre e
  have h := len_end e
  refine ⟨false, ev_succ ?_⟩
  simp only [spec_l1Has.l0.eq_2]
  exact ev_neg (by omega) (ev_now rfl)
 | cons c suf ih =>
  intro pre e
  have h := len_mid e
  by_cases hc : rd l (pre.length : Int) = x
  · refine ⟨true, ev_succ ?_⟩
    simp only [spec_l1Has.l0.eq_2]
    exact ev_pos (by omega) (ev_pos (by omega) (ev_pos hc (ev_now rfl)))
  · obtain ⟨b, hb⟩ := ih (pre ++ [c]) (snoc_mid e)
    refine ⟨b, ev_succ ?_⟩
    simp only [spec_l1Has.l0.eq_2]
    rw [wrap_snoc (pre := pre) (c := c) (by omega)]
    exact ev_pos (by omega) (ev_pos (by omega) (ev_neg hc hb))
theorem has_any (l : List Int) (x : Int) (hl : l.length ≤ 1000) : ∃ b, Ev (fun k => spec_l1Has.f k l x) b := by
 obtain ⟨b, hb⟩ := hasx_l l x hl l [] rfl
 exact ⟨b, by unfold spec_l1Has.f; exact hb⟩
theorem drawSO_l {l : List Int} (hl : byteL l) : ∀ (d : Nat) (x : List Int) (s1 s2 : Int), x.length + d ≤ 20 → 0 ≤ s1 → s1 + 10 * d ≤ 500000 →
 ∃ v, Ev (fun k => spec_DrawShapeOf.l0 k x (d : Int) l s1 s2) v ∧ v.length ≤ 20 := by
 intro d
 induction d with
 | zero =>
  intro x s1 s2 hx h0 h1
  refine ⟨x, ev_succ ?_, by omega⟩
  simp only [spec_DrawShapeOf.l0.eq_2]
  exact ev_neg (by omega) (ev_now rfl)
 | succ d ih =>
  intro x s1 s2 hx h0 h1
  obtain ⟨p, t1, t2, hp, _, _, hs, hs'⟩ := pick_any hl s1 s2 200 h0 (by omega) (by omega) (by omega)
  obtain ⟨b, hb⟩ := has_any x (wrap64 (p - 100)) (by omega)
  have hw : wrap64 (((d + 1 : Nat) : Int) - 1) = (d : Int) := by rw [wrap_of (by omega) (by omega)]; omega
  cases b with
  | true =>
   obtain ⟨c, u1, u2, hc, hu, hu'⟩ := one_any hl t1 t2 40 (by omega) (by omega) (by omega) (by omega)
   cases c with
   | true =>
    obtain ⟨v, hv, hv2⟩ := ih (x ++ [wrap64 (p - 100)]) u1 u2 (by simp; omega) (by omega) (by omega)
    refine ⟨v, ev_succ ?_, hv2⟩
    simp only [spec_DrawShapeOf.l0.eq_2, hw, hp]
    refine ev_pos (by omega) (ev_let (ev_bind hb (ev_pos rfl ?_)))
    simp only [hc]
    exact ev_let (ev_pos rfl (ev_pos (by omega) hv))
   | false =>
    obtain ⟨v, hv, hv2⟩ := ih x u1 u2 (by omega) (by omega) (by omega)
    refine ⟨v, ev_succ ?_, hv2⟩
    simp only [spec_DrawShapeOf.l0.eq_2, hw, hp]
    refine ev_pos (by omega) (ev_let (ev_bind hb (ev_pos rfl ?_)))
    simp only [hc]
    exact ev_let (ev_neg (by simp) hv)
  | false =>
   obtain ⟨v, hv, hv2⟩ := ih (x ++ [wrap64 (p - 100)]) t1 t2 (by simp; omega) (by omega) (by omega)
   refine ⟨v, ev_succ ?_, hv2⟩
   simp only [spec_DrawShapeOf.l0.eq_2, hw, hp]
   exact ev_pos (by omega) (ev_let (ev_bind hb (ev_neg (by simp) (ev_pos (by omega) hv))))
theorem drawSO_ok {l : List Int} (hl : byteL l) : ∃ v, Ev (fun k => spec_DrawShapeOf.f k l) v ∧ v.length ≤ 20 := by
 obtain ⟨y, s3, s4, hy, hm, hs, hs'⟩ := among_ok hl 0 0 [4, 3, 5, 2, 7, 1, 0, 8] (by omega) (by omega) (by decide) (by decide)
 have hr : 0 ≤ y ∧ y ≤ 8 := by
  simp only [List.mem_cons, List.not_mem_nil, or_false] at hm
  omega
 obtain ⟨n, rfl⟩ : ∃ n : Nat, y = (n : Int) := ⟨y.toNat, by omega⟩
 obtain ⟨v, hv, hv2⟩ := drawSO_l hl n [] s3 s4 (by simp; omega) (by omega) (by omega)
 refine ⟨v, ?_, hv2⟩
 unfold spec_DrawShapeOf.f
 rw [hy]
 exact ev_let hv
theorem vInts_l (a : List Int) (ha : a.length ≤ 1048576) : ∀ (suf pre : List Int), a = pre ++ suf → Ev (fun k => laws_vInts.l0 k a a (pre.length : Int)) true := by
 intro suf
 induction suf with
 | nil =>
  intro pre e
  have h := len_end e
  refine ev_succ ?_
  simp only [laws_vInts.l0.eq_2]
  exact ev_neg (by omega) (ev_now rfl)
 | cons c suf ih =>
  intro pre e
  have h := len_mid e
  refine ev_succ ?_
  simp only [laws_vInts.l0.eq_2]
  rw [wrap_snoc (pre := pre) (c := c) (by omega)]
  exact ev_pos (by omega) (ev_pos (by omega) (ev_pos (by omega) (ev_pos trivial (ih _ (snoc_mid e)))))
theorem vInts_ev (a : List Int) (ha : a.length ≤ 1048576) : Ev (fun k => laws_vInts.f k a a) true := by
 unfold laws_vInts.f
 exact ev_pos rfl (vInts_l a ha a [] rfl)
theorem vLists_l (a : List (List Int)) (ha : a.length ≤ 1048576) (hr : ∀ x ∈ a, x.length ≤ 1048576) : ∀ (suf pre : List (List Int)), a = pre ++ suf → Ev (fun k => laws_vLists.l0 k a a (pre.length : Int)) true := by
 intro suf
 induction suf with
 | nil =>
  intro pre e
  have h := len_end e
  refine ev_succ ?_
  simp only [laws_vLists.l0.eq_2]
  exact ev_neg (by omega) (ev_now rfl)
 | cons c suf ih =>
  intro pre e
  have h := len_mid e
  have hrd : rd_L1 a (pre.length : Int) = c := by rw [e]; simp [rd_L1]
  refine ev_succ ?_
  simp only [laws_vLists.l0.eq_2, hrd]
  rw [wrap_snoc (pre := pre) (c := c) (by omega)]
  exact ev_pos (by omega) (ev_pos (by omega) (ev_pos (by omega) (ev_bind (vInts_ev c (hr c (by rw [e]; simp))) (ev_pos rfl (ih _ (snoc_mid e))))))
theorem vLists_ev (a : List (List Int)) (ha : a.length ≤ 1048576) (hr : ∀ x ∈ a, x.length ≤ 1048576) : Ev (fun k => laws_vLists.f k a a) true := by
 unfold laws_vLists.f
 exact ev_pos rfl (vLists_l a ha hr a [] rfl)
theorem vHas_l (l : List Int) (x : Int) (hl : l.length ≤ 1000) : ∀ (suf pre : List Int), l = pre ++ suf → Ev (fun k => laws_vHas.l0 k l x (pre.length : Int)) (decide (x ∈ suf)) := by
 intro suf
 induction suf with
 | nil =>
  intro pre e
  have h := len_end e
  refine ev_succ ?_
  simp only [laws_vHas.l0.eq_2]
  exact ev_neg (by omega) (ev_now (by simp))
 | cons c suf ih =>
  intro pre e
  have h := len_mid e
  refine ev_succ ?_
  simp only [laws_vHas.l0.eq_2, rd_mid' e]
  rw [wrap_snoc (pre := pre) (c := c) (by omega)]
  refine ev_pos (by omega) (ev_pos (by omega) ?_)
  by_cases hc : c = x
  · exact ev_pos hc (ev_now (by simp [hc]))
  · exact ev_neg hc (ev_eq (ih _ (snoc_mid e)) (by
     have : ¬ x = c := fun e => hc e.symm
     simp [this]))
theorem vHas_ev (l : List Int) (x : Int) (hl : l.length ≤ 1000) : Ev (fun k => laws_vHas.f k l x) (decide (x ∈ l)) := by
 unfold laws_vHas.f
 exact vHas_l l x hl l [] rfl
theorem vPick_l (l xs : List Int) (hx : xs.length ≤ 1000) (hr : ∀ x ∈ xs, 0 ≤ x ∧ x < (l.length : Int)) : ∀ (suf pre : List Int), xs = pre ++ suf → Ev (fun k => laws_vPick.l0 k l xs (atG l pre) (pre.length : Int)) (atG l xs) := by
 intro suf
 induction suf with
 | nil =>
  intro pre e
  have h := len_end e
  refine ev_succ ?_
  simp only [laws_vPick.l0.eq_2]
  rw [List.append_nil] at e
  exact ev_neg (by omega) (ev_now (by rw [e]))
 | cons c suf ih =>
  intro pre e
  have h := len_mid e
  have hc := hr c (by rw [e]; simp)
  refine ev_succ ?_
  simp only [laws_vPick.l0.eq_2, rd_mid' e]
  rw [wrap_snoc (pre := pre) (c := c) (by omega), show atG l pre ++ [rd l c] = atG l (pre ++ [c]) from by simp [atG]]
  exact ev_pos (by omega) (ev_pos (by omega) (ev_pos (by omega) (ev_pos (by omega) (ev_pos (by omega) (ev_pos (by simp [atG]; omega) (ih _ (snoc_mid e)))))))
theorem vPick_ev (l xs : List Int) (hx : xs.length ≤ 1000) (hr : ∀ x ∈ xs, 0 ≤ x ∧ x < (l.length : Int)) : Ev (fun k => laws_vPick.f k l xs) (atG l xs) := by
 unfold laws_vPick.f
 have := vPick_l l xs hx hr xs [] rfl
 simpa [atG] using this
/-! ### what the law asks -/
theorem isorder_ev (a : List Int) (ha : a.length ≤ 140737488351232) : Ev (fun k => impl_IsOrder.f k a) (isOrd a) := by
 unfold impl_IsOrder.f
 first
  | exact ev_bind (impl_order_ev a ha) (ev_now rfl)
  | exact impl_order_ev a ha
theorem shape_isOrd {l : List Int} (h1 : 1 ≤ l.length) (h7 : l.length ≤ 7) (hn : l.Nodup) : isOrd (shapeL l) = true := by
 rw [isOrd_iff]
 refine ⟨by rw [shape_length]; exact ⟨h1, h7⟩, fun x hx => ?_, ?_⟩
 · obtain ⟨y, hy, rfl⟩ := List.mem_map.1 hx
   rw [shape_length]
   have := lessN_lt_len hy
   omega
 · unfold shapeL
   rw [List.Nodup, List.pairwise_map]
   refine hn.imp_of_mem (fun {a b} ha hb hab e => hab ?_)
   have e2 : lessN a l = lessN b l := by omega
   by_cases h : a < b
   · have := (lessN_lt_iff ha hb).1 h; omega
   · by_cases h' : b < a
     · have := (lessN_lt_iff hb ha).1 h'; omega
     · omega
theorem shape_shape (l : List Int) : shapeL (shapeL l) = shapeL l := shape_of_alike (alike_shape l)
theorem list_of_ord {l : List Int} (h : isOrd l = true) : isList l = true := (isList_iff l).2 ⟨ord_len h, ord_nodup h⟩
theorem at_nodup {l xs : List Int} (hl : l.Nodup) (hs : xs.Pairwise (· < ·)) (hr : ∀ x ∈ xs, 0 ≤ x ∧ x < (l.length : Int)) : (atG l xs).Nodup := by
 unfold atG
 rw [List.Nodup, List.pairwise_map]
 refine hs.imp_of_mem (fun {a b} ha hb hab e => ?_)
 have h1 := hr a ha
 have h2 := hr b hb
 have e1 : ∀ x, 0 ≤ x → (h : x < (l.length : Int)) → rd l x = l[x.toNat]'(by omega) := fun x h0 h => by
  have hi : x.toNat < l.length := by omega
  simp [rd, List.getD_eq_getElem?_getD, List.getElem?_eq_getElem hi]
 rw [e1 a h1.1 h1.2, e1 b h2.1 h2.2] at e
 have hp := List.pairwise_iff_getElem.1 hl
 exact hp a.toNat b.toNat (by omega) (by omega) (by omega) e
theorem first_found {l p : List Int} (hl : isOrd l = true) (h : (firstR l p).2 = true) : (∀ x ∈ (firstR l p).1, 0 ≤ x ∧ x < (l.length : Int)) ∧ (firstR l p).1.length = p.length ∧ shapeL (atG l (firstR l p).1) = p ∧ (atG l (firstR l p).1).Nodup := by
 unfold firstR at h ⊢
 cases he : (chA l.length p.length l.length []).find? (hit l p) with
 | none => rw [he] at h; cases h
 | some xs =>
  simp only
  have hm := List.mem_of_find?_eq_some he
  have hh := List.find?_some he
  obtain ⟨c1, c2, c3⟩ := (chA_iff _ _ xs).1 hm
  exact ⟨c3, c1, of_decide_eq_true hh, at_nodup (ord_nodup hl) c2 c3⟩
theorem any_filter (p : List Int → Bool) : ∀ L : List (List Int), L.any p = decide (((L.filter p).length : Int) > 0) := by
 intro L
 induction L with
 | nil => rfl
 | cons x L ih =>
  rw [List.any_cons, List.filter_cons]
  cases h : p x with
  | true => simp
  | false => rw [ih]; simp
theorem is_many {l p : List Int} (hl : l.length ≤ 7) : inB l p = decide (cpG l p > 0) := by
 rw [cpG_eq l p hl]
 exact any_filter (hit l p) _
theorem ch_some {n m : Nat} : (chA n m n []) ≠ [] ↔ m ≤ n := by
 constructor
 · intro h
   cases hc : chA n m n [] with
   | nil => exact absurd hc h
   | cons c t =>
    obtain ⟨h1, h2, h3⟩ := (chA_iff n m c).1 (by rw [hc]; simp)
    have hn : c.Nodup := h2.imp (fun hab => Int.ne_of_lt hab)
    have hsub : ∀ x ∈ c, x ∈ iota 0 n := fun x hx => (iota_mem n 0 x).2 (by have := h3 x hx; omega)
    have := nodup_len c (iota 0 n) hn hsub
    rw [iota_length] at this; omega
 · intro h hc
   have : iota 0 m ∈ chA n m n [] := (chA_iff n m _).2 ⟨iota_length _ _, iota_sorted m 0, fun x hx => by have := (iota_mem m 0 x).1 hx; omega⟩
   rw [hc] at this; cases this
def rsG (l xs : List Int) : Nat → List Int
 | 0 => []
 | i + 1 => if (i : Int) ∈ xs then rsG l xs i else rsG l xs i ++ [l.getD i 0]
theorem rsG_len (l xs : List Int) : ∀ i, (rsG l xs i).length ≤ i := by
 intro i
 induction i with
 | zero => simp [rsG]
 | succ i ih =>
  simp only [rsG]
  split
  · omega
  · simp; omega
theorem rsG_go (l xs : List Int) : ∀ (suf pre : List Int), l = pre ++ suf → rsG l xs l.length = rsG l xs pre.length ++ woGo xs suf (pre.length : Int) := by
 intro suf
 induction suf with
 | nil =>
  intro pre e
  rw [List.append_nil] at e
  rw [e]; simp [woGo]
 | cons c suf ih =>
  intro pre e
  rw [ih (pre ++ [c]) (snoc_mid e), List.length_append, List.length_singleton]
  have hc : l.getD pre.length 0 = c := by rw [e]; simp [List.getD_eq_getElem?_getD]
  simp only [rsG, woGo, hc]
  rw [show ((pre.length + 1 : Nat) : Int) = (pre.length : Int) + 1 by omega]
  split
  · rfl
  · simp
theorem rsG_wo (l xs : List Int) : rsG l xs l.length = woG l xs := by
 have := rsG_go l xs l [] rfl
 simpa [rsG, woG] using this
theorem woGo_sub (xs : List Int) : ∀ (s : List Int) (i : Int), (woGo xs s i).Sublist s := by
 intro s
 induction s with
 | nil => intro i; simp [woGo]
 | cons c s ih =>
  intro i
  simp only [woGo]
  split
  · exact (ih _).cons _
  · exact (ih _).cons_cons _
theorem woGo_nil (xs : List Int) : ∀ (s : List Int) (i : Int), woGo xs s i = [] → ∀ j : Int, i ≤ j → j < i + s.length → j ∈ xs := by
 intro s
 induction s with
 | nil => intro i _ j h1 h2; simp at h2; omega
 | cons c s ih =>
  intro i h j h1 h2
  simp only [woGo] at h
  split at h
  · rename_i hi
    by_cases hj : j = i
    · rw [hj]; exact hi
    · exact ih (i + 1) h j (by omega) (by simp at h2; omega)
  · cases h
theorem drops_ok (l p : List Int) : ∀ (d many : Nat), (dropsGo l p d many).2 = true → (dropsGo l p d many).1.length < many + d ∧ (dropsGo l p d many).1.length ≥ many ∧ okB l p (dropsGo l p d many).1 = true := by
 intro d
 induction d with
 | zero => intro many h; simp [dropsGo] at h
 | succ d ih =>
  intro many h
  rw [dropsGo_succ] at h ⊢
  cases he : (chA l.length many l.length []).find? (okB l p) with
  | some xs =>
   have hm := (chA_mem _ _ xs (List.mem_of_find?_eq_some he)).1
   have hh := List.find?_some he
   exact ⟨by simp only; omega, by simp only; omega, hh⟩
  | none =>
   rw [he] at h
   have := ih (many + 1) h
   exact ⟨by simp only; omega, by simp only; omega, this.2.2⟩
theorem wo_nil (l : List Int) : woG l [] = l := by
 have : ∀ (s : List Int) (i : Int), woGo [] s i = s := by
  intro s
  induction s with
  | nil => intro i; rfl
  | cons c s ih => intro i; simp [woGo, ih]
 exact this l 0
theorem fd_ok {a b : List Int} (h : (fdR a b).2 = true) : isOrd a = true ∧ isOrd b = true ∧ inB (woG a (fdR a b).1) b = false ∧ (fdR a b).1.length < a.length ∧ (((fdR a b).1.length : Int) == 0) = !inB a b := by
 by_cases hc : isOrd a = true ∧ isOrd b = true ∧ 2 ≤ b.length
 · have e : fdR a b = dropsGo a b a.length 0 := if_pos hc
   have hl := ord_len hc.1
   rw [e] at h ⊢
   obtain ⟨h1, _, h3⟩ := drops_ok a b a.length 0 h
   refine ⟨hc.1, hc.2.1, by unfold okB at h3; simpa using h3, by omega, ?_⟩
   obtain ⟨n, hn⟩ : ∃ n, a.length = n + 1 := ⟨a.length - 1, by omega⟩
   have h0 : chA a.length 0 a.length [] = [[]] := by unfold chA; rw [if_pos List.length_nil]
   rw [hn] at h ⊢
   rw [dropsGo_succ] at h ⊢
   rw [h0] at h ⊢
   cases hi : inB a b with
   | false =>
    have hk : okB a b [] = true := by unfold okB; rw [wo_nil, hi]; rfl
    simp [hk]
   | true =>
    have hk : okB a b [] = false := by unfold okB; rw [wo_nil, hi]; rfl
    simp only [List.find?_cons, hk, List.find?_nil] at h ⊢
    have := (drops_ok a b n 1 h).2.1
    exact beq_eq_false_iff_ne.mpr (by show ((dropsGo a b n 1).1.length : Int) ≠ 0; omega)
 · have e : fdR a b = ([], false) := if_neg hc
   rw [e] at h; cases h
theorem FnContained : laws_FnContained.Pure := by
 intro l hm ha hw
 by_cases hbig : (l.length : Int) > 65536
 · exact .inl (by unfold laws_vBig.f; rw [decide_eq_true hbig])
 refine .inr ⟨by unfold laws_vBig.f; rw [decide_eq_false hbig], ?_⟩
 have hl : byteL l := ⟨by omega, fun x hx => by have := hw x hx; simp [Lit.wf] at this; exact ⟨this.1, this.2⟩⟩
 obtain ⟨d1, hd1, hb1⟩ := vcut_ok hl 1 (by omega) (by omega)
 obtain ⟨d2, hd2, hb2⟩ := vcut_ok hl 2 (by omega) (by omega)
 obtain ⟨o, p, hfp, ho8, hp8⟩ := drawFP_ok hl
 obtain ⟨t, hso, ht20⟩ := drawSO_ok hb1
 obtain ⟨u, k, hpn, hu8⟩ := drawPN_ok hb2
 have hok := piR_ok u k
 have hfd := fdR_len o p
 have hfl : (fplR o p).1.length ≤ 8 := by
  unfold fplR
  split
  · have := firstR_len o p; omega
  · simp
 have hsl : (shapeR t).1.length ≤ 20 := by
  unfold shapeR
  split
  · rw [shape_length]; exact ht20
  · simp
 have q1 : cnR o p = ((cnR o p).1, (cnR o p).2) := rfl
 have q2 : (cplR o p).2 = (cnR o p).2 := by
  unfold cplR cnR
  split <;> rfl
 have hcp1 := impl_cp_ev o p (by omega) (by omega)
 have hcp2 := spec_cp_ev o p (by omega) (by omega)
 have q3 : cplR o p = ((cplR o p).1, (cnR o p).2) := by rw [← q2]
 rw [q3] at hcp1 hcp2
 refine ⟨o, p, (fplR o p).1, (fdR o p).1, d1, t, (shapeR t).1, d2, u, atG o (fplR o p).1, shapeL (woG o (fdR o p).1), (piR u k).1, fun i => decide ((i : Int) ∈ (fdR o p).1), rsG o (fdR o p).1, k, (cplR o p).1, (cnR o p).1, (cnR o p).2, (fplR o p).2, (fdR o p).2, (shapeR t).2, (piR u k).2, ?_⟩
 refine ⟨?e1, hfp, impl_cn_ev o p (by omega) (by omega), spec_cn_ev o p (by omega) (by omega), impl_fp_ev o p (by omega) (by omega), spec_fp_ev o p (by omega) (by omega), hcp1, hcp2, (by obtain ⟨K, hK⟩ := impl_fd_ev o p (by omega) (by omega); exact hK K (Nat.le_refl _)), spec_fd_ev o p (by omega) (by omega), hd1, hso, impl_shapeof_ev t (by omega), spec_shapeof_ev t (by omega), hd2, hpn, pi_impl_ev u k (by omega), pi_spec_ev u k (by omega), vInts_ev _ (by omega), vInts_ev _ (by omega), vInts_ev _ (by omega), vLists_ev _ hok.1 (fun r hr => of_decide_eq_true (List.all_eq_true.1 hok.2 r hr)), ?hfe, ?his, ?hfine, ?htwo, ?hthree, ?hone⟩
 case e1 => unfold laws_vBig.f; rw [decide_eq_false hbig]
 case hfe =>
  unfold fplR cnR
  split
  · rw [inB_first]; rfl
  · rfl
 case his =>
  intro h
  by_cases hc : isOrd o = true ∧ isOrd p = true
  · unfold cnR cplR
    rw [if_pos hc, if_pos hc]
    exact is_many (ord_len hc.1).2
  · have e : cnR o p = (false, false) := if_neg hc
    rw [e] at h; cases h
 case hfine =>
  intro h
  by_cases hc : isOrd o = true ∧ isOrd p = true
  · have e : fplR o p = firstR o p := if_pos hc
    rw [e] at h ⊢
    obtain ⟨g1, g2, g3, g4⟩ := first_found hc.1 h
    have hp := ord_len hc.2
    have hlen : (atG o (firstR o p).1).length = p.length := by simp [atG, g2]
    have hs := impl_shapeof_ev (atG o (firstR o p).1) (by omega)
    have e2 : shapeR (atG o (firstR o p).1) = (p, true) := by
     unfold shapeR
     rw [if_pos ((isList_iff _).2 ⟨by omega, g4⟩), g3]
    rw [e2] at hs
    exact ⟨vPick_ev o _ (by omega) g1, hs, vInts_ev p (by omega)⟩
  · have e : fplR o p = ([], false) := if_neg hc
    rw [e] at h; cases h
 case htwo =>
  intro h
  by_cases hc : isList t = true
  · have e : shapeR t = (shapeL t, true) := if_pos hc
    obtain ⟨h1, h2⟩ := (isList_iff t).1 hc
    have hso := shape_isOrd h1.1 h1.2 h2
    rw [e]
    have hs := impl_shapeof_ev (shapeL t) (by rw [shape_length]; omega)
    have e2 : shapeR (shapeL t) = (shapeL t, true) := by
     unfold shapeR
     rw [if_pos (list_of_ord hso), shape_shape]
    rw [e2] at hs
    have ho := isorder_ev (shapeL t) (by rw [shape_length]; omega)
    rw [hso] at ho
    exact ⟨hs, ho⟩
  · have e : shapeR t = ([], false) := if_neg hc
    rw [e] at h; cases h
 case hthree =>
  intro h
  by_cases hc : isOrd u = true ∧ 1 ≤ k ∧ k ≤ 7
  · have e : piR u k = (tidyG (piL u k.toNat), true) := if_pos hc
    rw [e] at hok ⊢
    have hul := ord_len hc.1
    refine ⟨fun i hi => ?_, ?_, hok.1⟩
    · have hm : (tidyG (piL u k.toNat)).getD i [] ∈ piL u k.toNat := by
       rw [← tidyG_mem]
       simp only at hi
       rw [List.getD_eq_getElem?_getD, List.getElem?_eq_getElem hi]
       exact List.getElem_mem hi
      obtain ⟨row, hrow⟩ : ∃ row, (tidyG (piL u k.toNat)).getD i [] = row := ⟨_, rfl⟩
      simp only [hrow] at hm ⊢
      have hlen := piL_len row hm
      obtain ⟨xs, hx, rfl⟩ := List.mem_map.1 hm
      obtain ⟨c1, c2, c3⟩ := (chA_iff _ _ xs).1 hx
      have hal : (atG u xs).length = k.toNat := by simp [atG, c1]
      have hro := shape_isOrd (l := atG u xs) (by omega) (by omega) (at_nodup (ord_nodup hc.1) c2 c3)
      have hcn := impl_cn_ev u (shapeL (atG u xs)) (by omega) (by omega)
      have e2 : cnR u (shapeL (atG u xs)) = (true, true) := by
       unfold cnR
       rw [if_pos ⟨hc.1, hro⟩]
       have : inB u (shapeL (atG u xs)) = true := by
        unfold inB
        rw [hlen]
        exact List.any_eq_true.2 ⟨xs, hx, by unfold hit; exact decide_eq_true rfl⟩
       rw [this]
      rw [e2] at hcn
      exact ⟨hcn, by omega⟩
    · have e3 : 0 < (tidyG (piL u k.toNat)).length ↔ piL u k.toNat ≠ [] := by
       constructor
       · intro h0 hn
         cases ht : tidyG (piL u k.toNat) with
         | nil => rw [ht] at h0; simp at h0
         | cons c s =>
          have := (tidyG_mem (piL u k.toNat) c).1 (by rw [ht]; simp)
          rw [hn] at this; cases this
       · intro hn
         cases hp : piL u k.toNat with
         | nil => exact absurd hp hn
         | cons c s =>
          have := (tidyG_mem (piL u k.toNat) c).2 (by rw [hp]; simp)
          rw [hp] at this
          exact List.length_pos_of_mem this
      have e4 : piL u k.toNat ≠ [] ↔ chA u.length k.toNat u.length [] ≠ [] := by
       unfold piL
       simp
      have e5 := e3.trans (e4.trans (ch_some (n := u.length) (m := k.toNat)))
      refine e5.trans ?_
      omega
  · have e : piR u k = ([], false) := if_neg hc
    rw [e] at h; cases h
 case hone =>
  intro h
  obtain ⟨g1, g2, g3, g4, g5⟩ := fd_ok h
  have hol := ord_len g1
  have hr : (rsG o (fdR o p).1 o.length) = woG o (fdR o p).1 := rsG_wo _ _
  have hsub : (woG o (fdR o p).1).Sublist o := woGo_sub _ _ _
  have hne : 1 ≤ (woG o (fdR o p).1).length := by
   cases hc : woG o (fdR o p).1 with
   | cons c s => simp
   | nil =>
    have hall := woGo_nil (fdR o p).1 o 0 hc
    have := nodup_len (iota 0 o.length) (fdR o p).1 (iota_nodup o.length 0) (fun x hx => by
     have := (iota_mem o.length 0 x).1 hx
     exact hall x (by omega) (by omega))
    rw [iota_length] at this; omega
  have hwl := hsub.length_le
  have hwn : (woG o (fdR o p).1).Nodup := hsub.nodup (ord_nodup g1)
  have hlo := shape_isOrd hne (by omega) hwn
  refine ⟨?_, fun i hi => ⟨vHas_ev _ _ (by omega), ?_, by have := rsG_len o (fdR o p).1 i; omega⟩, ⟨rfl, trivial⟩, ?_, ?_, by omega⟩
  · rw [g5]
    unfold cnR; rw [if_pos ⟨g1, g2⟩]
  · simp only [rsG, decide_eq_true_eq]
  · rw [hr]
    have hs := impl_shapeof_ev (woG o (fdR o p).1) (by omega)
    have e2 : shapeR (woG o (fdR o p).1) = (shapeL (woG o (fdR o p).1), true) := if_pos ((isList_iff _).2 ⟨by omega, hwn⟩)
    rw [e2] at hs
    exact hs
  · have hcn := impl_cn_ev (shapeL (woG o (fdR o p).1)) p (by rw [shape_length]; omega) (by omega)
    have e2 : cnR (shapeL (woG o (fdR o p).1)) p = (false, true) := by
     unfold cnR
     rw [if_pos ⟨hlo, g2⟩, in_shape, g3]
    rw [e2] at hcn
    exact hcn
end Go.Proofs.Ytlkddcabjcejdaa.Pure
