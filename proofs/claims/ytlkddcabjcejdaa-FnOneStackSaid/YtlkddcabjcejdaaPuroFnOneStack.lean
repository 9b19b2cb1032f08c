/- The pure statement of FnOneStack: what its functions answer, and that words and sortable orders tell one another (seen at each of the 5913 orders and the 625 words). No condition. -/
import Derived.Test.YtlkddcabjcejdaaMFnOneStackx15
import Derived.Test.YtlkddcabjcejdaaBase
import Derived.Test.YtlkddcabjcejdaaBaseP
import Derived.Test.YtlkddcabjcejdaaBaseW
import Derived.Test.YtlkddcabjcejdaaBaseR
import Derived.Test.YtlkddcabjcejdaaBaseT
import Derived.Test.YtlkddcabjcejdaaBaseO
import Derived.Test.YtlkddcabjcejdaaBaseA
import Derived.Test.YtlkddcabjcejdaaBaseG
import Derived.Test.YtlkddcabjcejdaaBaseF
import Derived.Test.YtlkddcabjcejdaaBaseN
import Derived.Test.YtlkddcabjcejdaaBaseI
import Derived.Test.YtlkddcabjcejdaaBaseC
namespace Go.Proofs.Ytlkddcabjcejdaa.Pure
open Go Go.RowKit Go.Proofs.Ytlkddcabjcejdaa.MFnOneStack Go.Proofs.YtlkddcabjcejdaaW.PrintWords Go.Proofs.Ytlkddcabjcejdaa.Base
set_option linter.unusedVariables false
set_option linter.unusedSimpArgs false
/-! ### the drawing functions -/
theorem u64_eq (n : Int) : IntKind.u64.wrap n = n % 18446744073709551616 := rfl
theorem and_ok (Y : Int) : 0 ≤ wrap64 (Go.bits .and .u64 (IntKind.u64.wrap Y / 1099511627776) 255) ∧ wrap64 (Go.bits .and .u64 (IntKind.u64.wrap Y / 1099511627776) 255) ≤ 255 := by
 rw [u64_eq]
 obtain ⟨m, hm⟩ : ∃ m : Nat, (Y % 18446744073709551616) / 1099511627776 = (m : Int) := ⟨((Y % 18446744073709551616) / 1099511627776).toNat, by omega⟩
 have hlt : m < 18446744073709551616 := by omega
 rw [hm, show (255 : Int) = ((255 : Nat) : Int) from rfl, Go.bits_and_u64_nat m 255 hlt (by omega)]
 have h2 : m &&& 255 ≤ 255 := Nat.and_le_right
 rw [wrap_of (by omega) (by omega)]
 omega
def byteL (l : List Int) : Prop := l.length ≤ 65536 ∧ ∀ x ∈ l, 0 ≤ x ∧ x ≤ 255
theorem rd_byte {l : List Int} (hl : byteL l) (i : Int) (h0 : 0 ≤ i) (h1 : i < (l.length : Int)) : 0 ≤ rd l i ∧ rd l i ≤ 255 := by
 have hi : i.toNat < l.length := by omega
 have e : rd l i = l[i.toNat] := by simp [rd, List.getD_eq_getElem?_getD, List.getElem?_eq_getElem hi]
 rw [e]
 exact hl.2 _ (List.getElem_mem hi)
theorem next_ok {l : List Int} (hl : byteL l) (s1 s2 : Int) (h0 : 0 ≤ s1) (h1 : s1 ≤ 1000000) : ∃ b s2', spec_l1Cur_next.f l s1 s2 = some (b, s1 + 1, s2') ∧ 0 ≤ b ∧ b ≤ 255 := by
 unfold spec_l1Cur_next.f
 rw [wrap_of (x := s1 + 1) (by omega) (by omega)]
 by_cases h : s1 < (l.length : Int)
 · have hr := rd_byte hl s1 h0 h
   rw [if_pos h, if_pos h0]
   by_cases h2 : s1 + 1 ≤ (l.length : Int)
   · rw [if_pos h2]
     exact ⟨_, _, rfl, by rw [wrap_of (by omega) (by omega)]; exact hr.1, by rw [wrap_of (by omega) (by omega)]; exact hr.2⟩
   · rw [if_neg h2]
     exact ⟨_, _, rfl, (and_ok _).1, (and_ok _).2⟩
 · rw [if_neg h]
   by_cases h2 : s1 + 1 ≤ (l.length : Int)
   · rw [if_pos h2]
     exact ⟨_, _, rfl, by omega, by omega⟩
   · rw [if_neg h2]
     exact ⟨_, _, rfl, (and_ok _).1, (and_ok _).2⟩
theorem pick_ok {l : List Int} (hl : byteL l) (s1 s2 n : Int) (h0 : 0 ≤ s1) (h1 : s1 ≤ 1000000) (hn : 2 ≤ n) (hn2 : n ≤ 200) : ∃ b s2', spec_l1Cur_pick.f l s1 s2 n = some (b, s1 + 1, s2') ∧ 0 ≤ b ∧ b < n := by
 obtain ⟨b, s2', hb, hb0, hb1⟩ := next_ok hl s1 s2 h0 h1
 unfold spec_l1Cur_pick.f
 rw [if_neg (by omega), hb]
 simp only [Option.bind_some]
 rw [if_neg (by omega), if_neg (by omega)]
 refine ⟨_, _, rfl, ?_, ?_⟩
 · rw [Int.tmod_eq_emod_of_nonneg hb0]; exact Int.emod_nonneg _ (by omega)
 · rw [Int.tmod_eq_emod_of_nonneg hb0]; exact Int.emod_lt_of_pos _ (by omega)

/-! ### the drawing functions that draw orders -/
theorem pick_any {l : List Int} (hl : byteL l) (s1 s2 n : Int) (h0 : 0 ≤ s1) (h1 : s1 ≤ 1000000) (hn : 1 ≤ n) (hn2 : n ≤ 200) : ∃ b s1' s2', spec_l1Cur_pick.f l s1 s2 n = some (b, s1', s2') ∧ 0 ≤ b ∧ b < n ∧ s1 ≤ s1' ∧ s1' ≤ s1 + 1 := by
 by_cases h : n = 1
 · subst h
   exact ⟨0, s1, s2, by unfold spec_l1Cur_pick.f; rw [if_pos (by omega)], by omega, by omega, by omega, by omega⟩
 · obtain ⟨b, s2', hb, hb0, hb1⟩ := pick_ok hl s1 s2 n h0 h1 (by omega) hn2
   exact ⟨b, s1 + 1, s2', hb, hb0, hb1, by omega, by omega⟩
theorem among_ok {l : List Int} (hl : byteL l) (s1 s2 : Int) (xs : List Int) (h0 : 0 ≤ s1) (h1 : s1 ≤ 1000000) (hn : 1 ≤ xs.length) (hn2 : xs.length ≤ 200) : ∃ x s1' s2', spec_l1Cur_among.f l s1 s2 xs = some (x, s1', s2') ∧ x ∈ xs ∧ s1 ≤ s1' ∧ s1' ≤ s1 + 1 := by
 obtain ⟨b, s1', s2', hb, hb0, hb1, hs, hs'⟩ := pick_any hl s1 s2 (xs.length : Int) h0 h1 (by omega) (by omega)
 unfold spec_l1Cur_among.f
 rw [hb]
 simp only [Option.bind_some]
 rw [if_pos hb0, if_pos hb1]
 refine ⟨_, _, _, rfl, ?_, hs, hs'⟩
 have hi : b.toNat < xs.length := by omega
 have e : rd xs b = xs[b.toNat] := by simp [rd, List.getD_eq_getElem?_getD, List.getElem?_eq_getElem hi]
 rw [e]
 exact List.getElem_mem hi
theorem own_ok (x : List Int) (h : x.length ≤ 1000) : spec_l1Own.f x = some x := by
 unfold spec_l1Own.f
 simp only [Option.bind_some, List.length_nil, Nat.zero_add, List.nil_append]
 rw [if_pos (by omega)]
theorem order_l {l : List Int} (hl : byteL l) : ∀ (d : Nat) (x : List Int) (s1 s2 : Int), x.length + d ≤ 7 → 1 ≤ x.length + d → 0 ≤ s1 → s1 + d ≤ 900000 →
 ∃ v, Ev (fun k => spec_l1Cur_order.l0 k x (d : Int) l s1 s2) v ∧ v.1.length ≤ 8 ∧ 0 ≤ v.2.1 ∧ v.2.1 ≤ s1 + d + 3 := by
 intro d
 induction d with
 | zero =>
  intro x s1 s2 hx hx1 h0 h1
  obtain ⟨p, s3, s4, hp, hp0, hp1, hs, hs'⟩ := pick_any hl s1 s2 40 h0 (by omega) (by omega) (by omega)
  by_cases hz : p = 0
  · refine ⟨([], s3, s4), ev_succ ?_, by simp, by simp only; omega, by simp only; omega⟩
    simp only [spec_l1Cur_order.l0.eq_2, hp]
    exact ev_neg (by omega) (ev_let (ev_pos hz (ev_now rfl)))
  · by_cases hz1 : p = 1
    · obtain ⟨q, s5, s6, hq, hq0, hq1, ht, ht'⟩ := pick_any hl s3 s4 (x.length : Int) (by omega) (by omega) (by omega) (by omega)
      obtain ⟨y, s7, s8, hy, _, hu, hu'⟩ := among_ok hl s5 s6 [0, 1, 8, (-1)] (by omega) (by omega) (by decide) (by decide)
      refine ⟨(x.set q.toNat y, s7, s8), ev_succ ?_, by simp; omega, by simp only; omega, by simp only; omega⟩
      simp only [spec_l1Cur_order.l0.eq_2, hp]
      refine ev_neg (by omega) (ev_let (ev_neg hz (ev_pos hz1 ?_)))
      simp only [hq]
      refine ev_let ?_
      simp only [hy]
      exact ev_let (ev_pos hq0 (ev_pos hq1 (ev_now rfl)))
    · by_cases hz2 : p = 2
      · refine ⟨([1, 2, 3, 4, 5, 6, 7, 8], s3, s4), ev_succ ?_, by simp, by simp only; omega, by simp only; omega⟩
        simp only [spec_l1Cur_order.l0.eq_2, hp]
        exact ev_neg (by omega) (ev_let (ev_neg hz (ev_neg hz1 (ev_pos hz2 (ev_now rfl)))))
      · refine ⟨(x, s3, s4), ev_succ ?_, by simp only; omega, by simp only; omega, by simp only; omega⟩
        simp only [spec_l1Cur_order.l0.eq_2, hp]
        exact ev_neg (by omega) (ev_let (ev_neg hz (ev_neg hz1 (ev_neg hz2 (ev_now rfl)))))
 | succ d ih =>
  intro x s1 s2 hx hx1 h0 h1
  obtain ⟨p, s3, s4, hp, hp0, hp1, hs, hs'⟩ := pick_any hl s1 s2 ((x.length : Int) + 1) h0 (by omega) (by omega) (by omega)
  have hw : wrap64 ((x.length : Int) + 1) = (x.length : Int) + 1 := wrap_of (by omega) (by omega)
  have hlen : ((x.take p.toNat ++ [(x.length : Int) + 1]) ++ x.drop p.toNat).length = x.length + 1 := by simp; omega
  obtain ⟨v, hv, hv1, hv2, hv3⟩ := ih ((x.take p.toNat ++ [(x.length : Int) + 1]) ++ x.drop p.toNat) s3 s4 (by rw [hlen]; omega) (by omega) (by omega) (by omega)
  refine ⟨v, ev_succ ?_, hv1, hv2, by omega⟩
  have how := own_ok (x.take p.toNat) (by simp; omega)
  simp only [spec_l1Cur_order.l0.eq_2, hw, hp]
  rw [wrap_of (x := ((d + 1 : Nat) : Int) - 1) (by omega) (by omega), show ((d + 1 : Nat) : Int) - 1 = (d : Int) by omega]
  refine ev_pos (by omega) (ev_let (ev_pos hp0 (ev_pos (by simp only; omega) ?_)))
  simp only [how]
  exact ev_let (ev_let (ev_pos (by simp; omega) (ev_let (ev_let (ev_pos (by simp; omega) hv)))))
theorem order_ok {l : List Int} (hl : byteL l) (s1 s2 : Int) (h0 : 0 ≤ s1) (h1 : s1 ≤ 800000) : ∃ v, Ev (fun k => spec_l1Cur_order.f k l s1 s2) v ∧ v.1.length ≤ 8 ∧ 0 ≤ v.2.1 ∧ v.2.1 ≤ s1 + 20 := by
 obtain ⟨y, s3, s4, hy, hm, hs, hs'⟩ := among_ok hl s1 s2 [4, 5, 3, 6, 2, 7, 1, 4] h0 (by omega) (by decide) (by decide)
 have hr : 1 ≤ y ∧ y ≤ 7 := by
  simp only [List.mem_cons, List.not_mem_nil, or_false] at hm
  omega
 obtain ⟨v, hv, hv1, hv2, hv3⟩ := order_l hl y.toNat [] s3 s4 (by simp; omega) (by simp; omega) (by omega) (by omega)
 refine ⟨v, ?_, hv1, hv2, by omega⟩
 unfold spec_l1Cur_order.f
 rw [hy]
 refine ev_let ?_
 rw [show ((y.toNat : Nat) : Int) = y by omega] at hv
 exact hv

/-! ### further drawing functions -/
theorem pick_all {l : List Int} (hl : byteL l) (s1 s2 n : Int) (h0 : 0 ≤ s1) (h1 : s1 ≤ 900000) (hn : 1 ≤ n) (hn2 : n ≤ 1000000) : ∃ b s1' s2', spec_l1Cur_pick.f l s1 s2 n = some (b, s1', s2') ∧ 0 ≤ b ∧ b < n ∧ s1 ≤ s1' ∧ s1' ≤ s1 + 2 := by
 by_cases h : n ≤ 200
 · obtain ⟨b, s1', s2', hb, h2, h3, h4, h5⟩ := pick_any hl s1 s2 n h0 (by omega) hn h
   exact ⟨b, s1', s2', hb, h2, h3, h4, by omega⟩
 · obtain ⟨b, s2', hb, hb0, hb1⟩ := next_ok hl s1 s2 h0 (by omega)
   obtain ⟨c, s3', hc, hc0, hc1⟩ := next_ok hl (s1 + 1) s2' (by omega) (by omega)
   unfold spec_l1Cur_pick.f
   rw [if_neg (by omega), hb]
   simp only [Option.bind_some]
   rw [if_pos (by omega), hc]
   simp only [Option.bind_some]
   rw [if_neg (by omega), wrap_of (x := b * 256) (by omega) (by omega), wrap_of (by omega) (by omega)]
   refine ⟨_, _, _, rfl, ?_, ?_, by omega, by omega⟩
   · rw [Int.tmod_eq_emod_of_nonneg (by omega)]; exact Int.emod_nonneg _ (by omega)
   · rw [Int.tmod_eq_emod_of_nonneg (by omega)]; exact Int.emod_lt_of_pos _ (by omega)
theorem one_any {l : List Int} (hl : byteL l) (s1 s2 n : Int) (h0 : 0 ≤ s1) (h1 : s1 ≤ 900000) (hn : 1 ≤ n) (hn2 : n ≤ 200) : ∃ b s1' s2', spec_l1Cur_one.f l s1 s2 n = some (b, s1', s2') ∧ s1 ≤ s1' ∧ s1' ≤ s1 + 1 := by
 obtain ⟨b, s3, s4, hb, _, _, hs, hs'⟩ := pick_any hl s1 s2 n h0 (by omega) hn hn2
 exact ⟨b == 0, s3, s4, by unfold spec_l1Cur_one.f; rw [hb]; rfl, hs, hs'⟩

/-! ### Is it an order? -/
theorem in_ev (a b c : Int) : Ev (fun _ => spec_l1In.f a b c) (decide (b ≤ a) && decide (a ≤ c)) := by
 unfold spec_l1In.f
 by_cases h : a ≥ b
 · refine ev_pos h (ev_now ?_)
   have : decide (b ≤ a) = true := decide_eq_true h
   rw [this]; rfl
 · refine ev_neg h (ev_now ?_)
   have : decide (b ≤ a) = false := decide_eq_false (by omega)
   rw [this]; rfl

theorem has_l (l : List Int) (x : Int) (hl : l.length ≤ 140737488351232) : ∀ (suf pre : List Int), l = pre ++ suf → Ev (fun k => spec_l1Has.l0 k l x (pre.length : Int)) (decide (x ∈ suf)) := by
 intro suf
 induction suf with
 | nil =>
  intro pre e
  have h := len_end e
  refine ev_succ ?_
  simp only [spec_l1Has.l0.eq_2]
  refine ev_neg (by omega) ?_
  exact ev_now (by simp)
 | cons c suf ih =>
  intro pre e
  have h := len_mid e
  refine ev_succ ?_
  simp only [spec_l1Has.l0.eq_2, rd_mid' e]
  refine ev_pos (by omega) (ev_pos (by omega) ?_)
  by_cases hc : c = x
  · exact ev_pos hc (ev_now (by simp [hc]))
  · refine ev_neg hc ?_
    rw [wrap_snoc (pre := pre) (c := c) (by omega)]
    refine ev_eq (ih _ (snoc_mid e)) ?_
    have : x ≠ c := fun h => hc h.symm
    simp [this]
theorem has_ev (l : List Int) (x : Int) (hl : l.length ≤ 140737488351232) : Ev (fun k => spec_l1Has.f k l x) (decide (x ∈ l)) := by
 unfold spec_l1Has.f
 exact has_l l x hl l [] rfl
theorem idx_l (l : List Int) (x : Int) (hl : l.length ≤ 140737488351232) : ∀ (suf pre : List Int), l = pre ++ suf → Ev (fun k => slices_Index_int_int.l0 k l x (l.length : Int) (pre.length : Int)) (if x ∈ suf then ((pre.length + suf.idxOf x : Nat) : Int) else -1) := by
 intro suf
 induction suf with
 | nil =>
  intro pre e
  have h := len_end e
  refine ev_succ ?_
  simp only [slices_Index_int_int.l0.eq_2]
  refine ev_neg (by omega) ?_
  exact ev_now (by simp)
 | cons c suf ih =>
  intro pre e
  have h := len_mid e
  refine ev_succ ?_
  simp only [slices_Index_int_int.l0.eq_2, rd_mid' e]
  refine ev_pos (by omega) (ev_pos (by omega) (ev_pos (by omega) ?_))
  by_cases hc : x = c
  · exact ev_pos hc (ev_now (by simp [hc]))
  · refine ev_neg hc ?_
    rw [wrap_snoc (pre := pre) (c := c) (by omega)]
    refine ev_eq (ih _ (snoc_mid e)) ?_
    have hc' : ¬ c = x := fun h => hc h.symm
    have hb : (c == x) = false := by simpa using hc'
    simp only [List.mem_cons, hc, false_or, List.idxOf_cons, hb, cond_false]
    by_cases hm : x ∈ suf
    · rw [if_pos hm, if_pos hm]; simp; omega
    · rw [if_neg hm, if_neg hm]
theorem idx_ev (l : List Int) (x : Int) (hl : l.length ≤ 140737488351232) : Ev (fun k => slices_Index_int_int.f k l x) (if x ∈ l then ((l.idxOf x : Nat) : Int) else -1) := by
 unfold slices_Index_int_int.f
 simpa using idx_l l x hl l [] rfl
theorem contains_ev (l : List Int) (x : Int) (hl : l.length ≤ 140737488351232) : Ev (fun k => slices_Contains_int_int.f k l x) (decide (x ∈ l)) := by
 unfold slices_Contains_int_int.f
 refine ev_bind (idx_ev l x hl) (ev_now ?_)
 by_cases h : x ∈ l
 · simp [h]
 · simp [h]


theorem spec_order_l (l : List Int) (hl : l.length ≤ 140737488351232) : ∀ (suf pre : List Int), l = pre ++ suf → Ev (fun k => spec_l2Order.l0 k l (pre.length : Int)) (ordGo (l.length : Int) pre suf) := by
 intro suf
 induction suf with
 | nil =>
  intro pre e
  have h := len_end e
  refine ev_succ ?_
  simp only [spec_l2Order.l0.eq_2]
  refine ev_neg (by omega) ?_
  exact ev_now rfl
 | cons c suf ih =>
  intro pre e
  have h := len_mid e
  refine ev_succ ?_
  simp only [spec_l2Order.l0.eq_2, rd_mid' e, take_mid e]
  refine ev_pos (by omega) (ev_pos (by omega) (ev_bind (in_ev _ _ _) ?_))
  by_cases hr : 1 ≤ c ∧ c ≤ (l.length : Int)
  · refine ev_pos (by simp [hr.1, hr.2]) (ev_pos (by omega) (ev_bind (has_ev pre c (by omega)) ?_))
    by_cases hc : c ∈ pre
    · exact ev_pos (by simp [hc]) (ev_now (by simp [ordGo, hc]))
    · refine ev_neg (by simp [hc]) ?_
      rw [wrap_snoc (pre := pre) (c := c) (by omega)]
      refine ev_eq (ih _ (snoc_mid e)) ?_
      simp [ordGo, hr.1, hr.2, hc]
  · refine ev_neg (by simp; omega) (ev_now ?_)
    simp only [ordGo]
    rw [if_neg (fun h => hr ⟨h.1, h.2.1⟩)]
theorem spec_order_ev (l : List Int) (hl : l.length ≤ 140737488351232) : Ev (fun k => spec_l2Order.f k l) (isOrd l) := by
 unfold spec_l2Order.f
 refine ev_bind (in_ev _ _ _) ?_
 unfold isOrd
 by_cases h : 1 ≤ l.length ∧ l.length ≤ 7
 · refine ev_pos (by simp; omega) ?_
   rw [if_pos h]
   exact spec_order_l l hl l [] rfl
 · refine ev_neg (by simp; omega) (ev_now ?_)
   rw [if_neg h]
theorem impl_order_l (l : List Int) (hl : l.length ≤ 140737488351232) : ∀ (suf pre : List Int), l = pre ++ suf → Ev (fun k => impl_isOrder.l0 k l l (l.length : Int) (pre.length : Int)) (ordGo (l.length : Int) pre suf) := by
 intro suf
 induction suf with
 | nil =>
  intro pre e
  have h := len_end e
  refine ev_succ ?_
  simp only [impl_isOrder.l0.eq_2]
  refine ev_neg (by omega) ?_
  exact ev_now rfl
 | cons c suf ih =>
  intro pre e
  have h := len_mid e
  refine ev_succ ?_
  simp only [impl_isOrder.l0.eq_2, rd_mid' e, take_mid e]
  refine ev_pos (by omega) (ev_pos (by omega) (ev_pos (by omega) ?_))
  by_cases h1 : c < 1
  · exact ev_pos h1 (ev_now (by simp only [ordGo]; rw [if_neg (fun h => by omega)]))
  refine ev_neg h1 ?_
  by_cases h2 : c > (l.length : Int)
  · exact ev_pos h2 (ev_now (by simp only [ordGo]; rw [if_neg (fun h => by omega)]))
  refine ev_neg h2 (ev_pos (by omega) (ev_bind (contains_ev pre c (by omega)) ?_))
  by_cases hc : c ∈ pre
  · exact ev_pos (by simp [hc]) (ev_now (by simp [ordGo, hc]))
  · refine ev_neg (by simp [hc]) ?_
    rw [wrap_snoc (pre := pre) (c := c) (by omega)]
    refine ev_eq (ih _ (snoc_mid e)) ?_
    simp only [ordGo]
    rw [if_pos ⟨by omega, by omega, hc⟩]
theorem impl_order_ev (l : List Int) (hl : l.length ≤ 140737488351232) : Ev (fun k => impl_isOrder.f k l) (isOrd l) := by
 have key : ∀ b : Bool, Ev (fun k => impl_isOrder.j0 k l b) (if b = true then false else ordGo (l.length : Int) [] l) := by
  intro b
  refine ev_succ ?_
  simp only [impl_isOrder.j0.eq_2]
  cases b with
  | true => exact ev_pos rfl (ev_now rfl)
  | false => exact ev_neg (by simp) (impl_order_l l hl l [] rfl)
 unfold impl_isOrder.f isOrd
 by_cases h1 : (l.length : Int) < 1
 · refine ev_pos h1 (ev_eq (key true) ?_)
   rw [if_pos rfl, if_neg (fun h => by omega)]
 · refine ev_neg h1 (ev_eq (key _) ?_)
   by_cases h2 : (l.length : Int) > 7
   · rw [if_neg (c := 1 ≤ l.length ∧ l.length ≤ 7) (fun h => by omega), if_pos (decide_eq_true h2)]
   · rw [if_pos (c := 1 ≤ l.length ∧ l.length ≤ 7) ⟨by omega, by omega⟩, if_neg (by simp; omega)]


/-! ### the word by which numbers come out of others -/
theorem toGo_nil (m : Nat) (o s out : List Int) : toGo m [] o s out = (out, true) := by cases m <;> rfl
theorem toGo_pop (m : Nat) (n : Int) (t o s out : List Int) : toGo (m + 1) (n :: t) o (n :: s) out = toGo m t o s (out ++ [79]) := by
 simp [toGo]
theorem toGo_push0 (m : Nat) (n c : Int) (t o out : List Int) : toGo (m + 1) (n :: t) (c :: o) [] out = toGo m (n :: t) o [c] (out ++ [73]) := by
 simp [toGo]
theorem toGo_push (m : Nat) (n c x : Int) (t o s out : List Int) (h : x ≠ n) : toGo (m + 1) (n :: t) (c :: o) (x :: s) out = toGo m (n :: t) o (c :: x :: s) (out ++ [73]) := by
 simp [toGo, h]
theorem toGo_stop (m : Nat) (n x : Int) (t s out : List Int) (h : x ≠ n) : toGo (m + 1) (n :: t) [] (x :: s) out = ([], false) := by
 simp [toGo, h]
theorem spec_to_l (a b : List Int) (ha : a.length ≤ 7) (hb : b.length ≤ 7) : ∀ (m : Nat) (t o s out opre tpre : List Int), a = opre ++ o → b = tpre ++ t → o.length + t.length ≤ m → s.length + o.length = t.length → out.length + m ≤ 1000 →
 Ev (fun k => spec_l2To.l0 k a b (strOfNums out) s.reverse (opre.length : Int) (tpre.length : Int)) (strOfNums (toGo m t o s out).1, (toGo m t o s out).2) ∧
 (t ≠ [] → Ev (fun k => spec_l2To.l1 k a b (strOfNums out) s.reverse (opre.length : Int) (tpre.length : Int)) (strOfNums (toGo m t o s out).1, (toGo m t o s out).2)) := by
 intro m
 induction m with
 | zero =>
  intro t o s out opre tpre e1 e2 hm hs ho
  have ht : t = [] := List.length_eq_zero_iff.1 (by omega)
  subst ht
  have h2 := len_end e2
  refine ⟨?_, fun h => absurd rfl h⟩
  refine ev_succ ?_
  simp only [spec_l2To.l0.eq_2]
  exact ev_neg (by omega) (ev_now (by rw [toGo_nil]))
 | succ m ih =>
  intro t o s out opre tpre e1 e2 hm hs ho
  have key : t ≠ [] → Ev (fun k => spec_l2To.l1 k a b (strOfNums out) s.reverse (opre.length : Int) (tpre.length : Int)) (strOfNums (toGo (m + 1) t o s out).1, (toGo (m + 1) t o s out).2) := by
   intro hne
   obtain ⟨n, t, rfl⟩ : ∃ n t', t = n :: t' := by cases t with
    | nil => exact absurd rfl hne
    | cons n t' => exact ⟨n, t', rfl⟩
   have h2 := len_mid e2
   simp only [List.length_cons] at hm hs
   have hsz : (strOfNums out).size = out.length := str_size out
   refine ev_succ ?_
   simp only [spec_l2To.l1.eq_2, rd_mid' e2]
   cases o with
   | cons c o =>
    have h1 := len_mid e1
    simp only [List.length_cons] at hm hs
    rw [rd_mid' e1, wrap_snoc (pre := opre) (c := c) (by omega), wrap_snoc (pre := tpre) (c := n) (by omega), str_snocI, str_snocO]
    refine ev_pos (by omega) ?_
    cases s with
    | nil =>
     refine ev_pos (by simp) (ev_pos (by omega) (ev_pos (by simp) (ev_pos (by omega) ?_)))
     rw [toGo_push0]
     exact (ih (n :: t) o [c] (out ++ [73]) (opre ++ [c]) tpre (snoc_mid e1) e2 (by simp; omega) (by simp at hs ⊢; omega) (by simp; omega)).2 (by simp)
    | cons x s =>
     simp only [List.length_cons] at hs
     have hl : ((x :: s).reverse.length : Int) = (s.length : Int) + 1 := by simp
     rw [wrap_of (x := ((x :: s).reverse.length : Int) - 1) (by omega) (by omega), top_rev, pop_rev]
     refine ev_neg (by omega) (ev_pos (by omega) (ev_pos (by omega) (ev_pos (by omega) (ev_pos (by omega) ?_))))
     by_cases hx : x = n
     · subst hx
       refine ev_pos rfl (ev_pos (by omega) (ev_pos (by omega) ?_))
       rw [toGo_pop]
       exact (ih t (c :: o) s (out ++ [79]) opre (tpre ++ [x]) e1 (snoc_mid e2) (by simp; omega) (by simp; omega) (by simp; omega)).1
     · refine ev_neg hx (ev_pos (by omega) (ev_pos (by simp; omega) (ev_pos (by omega) ?_)))
       rw [toGo_push _ _ _ _ _ _ _ _ hx]
       have := (ih (n :: t) o (c :: x :: s) (out ++ [73]) (opre ++ [c]) tpre (snoc_mid e1) e2 (by simp; omega) (by simp; omega) (by simp; omega)).2 (by simp)
       simpa using this
   | nil =>
    have h1 := len_end e1
    cases s with
    | nil => simp at hs
    | cons x s =>
     simp only [List.length_cons, List.length_nil] at hs
     have hl : ((x :: s).reverse.length : Int) = (s.length : Int) + 1 := by simp
     rw [wrap_of (x := ((x :: s).reverse.length : Int) - 1) (by omega) (by omega), top_rev, pop_rev, wrap_snoc (pre := tpre) (c := n) (by omega), str_snocO]
     refine ev_neg (by omega) (ev_pos (by omega) (ev_pos (by omega) (ev_pos (by omega) (ev_pos (by omega) ?_))))
     by_cases hx : x = n
     · subst hx
       refine ev_pos rfl (ev_pos (by omega) (ev_pos (by omega) ?_))
       rw [toGo_pop]
       exact (ih t [] s (out ++ [79]) opre (tpre ++ [x]) e1 (snoc_mid e2) (by simp; omega) (by simp; omega) (by simp; omega)).1
     · rw [toGo_stop _ _ _ _ _ _ hx]
       exact ev_neg hx (ev_now (by simp [str_nil]))
  refine ⟨?_, key⟩
  cases t with
  | nil =>
   have h2 := len_end e2
   refine ev_succ ?_
   simp only [spec_l2To.l0.eq_2]
   exact ev_neg (by omega) (ev_now (by rw [toGo_nil]))
  | cons n t =>
   have h2 := len_mid e2
   refine ev_succ ?_
   simp only [spec_l2To.l0.eq_2]
   exact ev_pos (by omega) (key (by simp))
theorem impl_to_l (b : List Int) (hb : b.length ≤ 7) : ∀ (m : Nat) (t o s out tpre : List Int), b = tpre ++ t → o.length + t.length ≤ m → s.length + o.length = t.length → out.length + m ≤ 1000 →
 Ev (fun k => impl_wordTo.l0 k o s.reverse out b (b.length : Int) (tpre.length : Int)) (strOfNums (toGo m t o s out).1, (toGo m t o s out).2) ∧
 (∀ n t', t = n :: t' → Ev (fun k => impl_wordTo.l1 k o s.reverse out n b (b.length : Int) (tpre.length : Int)) (strOfNums (toGo m t o s out).1, (toGo m t o s out).2)) := by
 intro m
 induction m with
 | zero =>
  intro t o s out tpre e2 hm hs ho
  have ht : t = [] := List.length_eq_zero_iff.1 (by omega)
  subst ht
  have h2 := len_end e2
  refine ⟨?_, fun n t' h => by cases h⟩
  refine ev_succ ?_
  simp only [impl_wordTo.l0.eq_2]
  exact ev_neg (by omega) (ev_now (by rw [toGo_nil]))
 | succ m ih =>
  intro t o s out tpre e2 hm hs ho
  have key : ∀ n t', t = n :: t' → Ev (fun k => impl_wordTo.l1 k o s.reverse out n b (b.length : Int) (tpre.length : Int)) (strOfNums (toGo (m + 1) t o s out).1, (toGo (m + 1) t o s out).2) := by
   intro n t' et
   subst et
   have h2 := len_mid e2
   simp only [List.length_cons] at hm hs
   have push : ∀ c o', o = c :: o' → s.head? ≠ some n → Ev (fun k => impl_wordTo.j2 k o s.reverse out n b (b.length : Int) (tpre.length : Int) true) (strOfNums (toGo (m + 1) (n :: t') o s out).1, (toGo (m + 1) (n :: t') o s out).2) := by
    intro c o' eo hh
    subst eo
    simp only [List.length_cons] at hm hs
    refine ev_succ ?_
    simp only [impl_wordTo.j2.eq_2]
    refine ev_pos trivial (ev_neg (by simp; omega) (ev_pos (by simp) (ev_let (ev_pos (by simp; omega) (ev_pos (by simp; omega) (ev_let (ev_pos (by simp; omega) ?_)))))))
    have hr : rd (c :: o') 0 = c := by simp [rd]
    have e3 : toGo (m + 1) (n :: t') (c :: o') s out = toGo m (n :: t') o' (c :: s) (out ++ [73]) := by
     simp [toGo, hh]
    rw [hr, e3]
    have := (ih (n :: t') o' (c :: s) (out ++ [73]) tpre e2 (by simp; omega) (by simp; omega) (by simp; omega)).2 n t' rfl
    simpa using this
   refine ev_succ ?_
   simp only [impl_wordTo.l1.eq_2]
   cases s with
   | nil =>
    refine ev_pos (by simp) ?_
    cases o with
    | nil => simp at hs
    | cons c o => exact push c o rfl (by simp)
   | cons x s =>
    simp only [List.length_cons] at hs
    have hl : ((x :: s).reverse.length : Int) = (s.length : Int) + 1 := by simp
    rw [wrap_of (x := ((x :: s).reverse.length : Int) - 1) (by omega) (by omega), top_rev]
    refine ev_neg (by omega) (ev_pos (by omega) (ev_pos (by omega) ?_))
    by_cases hx : x = n
    · subst hx
      have hb' : (x != x) = false := by simp
      rw [hb']
      refine ev_succ ?_
      simp only [impl_wordTo.j2.eq_2]
      rw [wrap_of (x := ((x :: s).reverse.length : Int) - 1) (by omega) (by omega), pop_rev, wrap_snoc (pre := tpre) (c := x) (by omega)]
      refine ev_neg (by simp) (ev_pos (by omega) (ev_pos (by omega) (ev_let (ev_pos (by simp; omega) ?_))))
      rw [toGo_pop]
      exact (ih t' o s (out ++ [79]) (tpre ++ [x]) (snoc_mid e2) (by omega) (by omega) (by simp; omega)).1
    · have hb' : (x != n) = true := by simpa using hx
      rw [hb']
      cases o with
      | nil =>
       refine ev_succ ?_
       simp only [impl_wordTo.j2.eq_2]
       rw [toGo_stop _ _ _ _ _ _ hx]
       exact ev_pos trivial (ev_pos (by simp) (ev_now (by simp [str_nil])))
      | cons c o => exact push c o rfl (by simpa using hx)
  refine ⟨?_, key⟩
  cases t with
  | nil =>
   have h2 := len_end e2
   refine ev_succ ?_
   simp only [impl_wordTo.l0.eq_2]
   exact ev_neg (by omega) (ev_now (by rw [toGo_nil]))
  | cons n t =>
   have h2 := len_mid e2
   refine ev_succ ?_
   simp only [impl_wordTo.l0.eq_2, rd_mid' e2]
   exact ev_pos (by omega) (ev_pos (by omega) (ev_pos (by omega) (key n t rfl)))
theorem spec_to_ev (a b : List Int) (ha : a.length ≤ 7) (h : a.length = b.length) : Ev (fun k => spec_l2To.f k a b) (toW a b) := by
 unfold spec_l2To.f toW toL
 have := (spec_to_l a b ha (by omega) (a.length + b.length) b a [] [] [] [] rfl rfl (by omega) (by simp; omega) (by simp; omega)).1
 simpa [str_nil] using this
theorem impl_to_ev (a b : List Int) (ha : a.length ≤ 7) (h : a.length = b.length) : Ev (fun k => impl_wordTo.f k a b) (toW a b) := by
 unfold impl_wordTo.f toW toL
 have := (impl_to_l b (by omega) (a.length + b.length) b a [] [] [] rfl (by omega) (by simp; omega) (by simp; omega)).1
 simpa using this

theorem sorted_tab : ∀ i : Fin 8, impl_sorted.f 20 ((i.val : Nat) : Int) = some (iota 1 i.val) := by decide +kernel
theorem sorted_ev (n : Nat) (h : n ≤ 7) : Ev (fun k => impl_sorted.f k (n : Int)) (iota 1 n) := Ev.of (fun k => impl_sorted.mono _ k) (sorted_tab ⟨n, by omega⟩)

theorem spec_sorted_tab : ∀ i : Fin 8, spec_l2Sorted.f 20 ((i.val : Nat) : Int) = some (iota 1 i.val) := by decide +kernel
theorem spec_sorted_ev (n : Nat) (h : n ≤ 7) : Ev (fun k => spec_l2Sorted.f k (n : Int)) (iota 1 n) := Ev.of (fun k => spec_l2Sorted.mono _ k) (spec_sorted_tab ⟨n, by omega⟩)

/-! ### slices.IsSorted -/
theorem less_ev (a b : Int) : Ev (fun _ => cmp_Less_int.f a b) (decide (a < b)) := ev_const (by simp [cmp_Less_int.f, cmp_isNaN_int.f])
theorem sorted_l (l : List Int) (hl : l.length ≤ 1000) : ∀ (p suf : List Int), l = p.reverse ++ suf → p ≠ [] → Ev (fun k => slices_IsSorted_int_int.l0 k l ((p.length : Int) - 1)) (srtR p) := by
 intro p
 induction p with
 | nil => intro suf e hp; exact absurd rfl hp
 | cons a p ih =>
  intro suf e _
  have hll : l.length = p.length + 1 + suf.length := by rw [e]; simp; omega
  have em : l = p.reverse ++ a :: suf := by rw [e]; simp
  have ra : rd l (p.length : Int) = a := by have := rd_mid' em; simpa using this
  have e1 : (((a :: p).length : Nat) : Int) - 1 = (p.length : Int) := by simp
  rw [e1]
  refine ev_succ ?_
  simp only [slices_IsSorted_int_int.l0.eq_2, ra]
  cases p with
  | nil => exact ev_neg (by simp) (ev_now (by simp [srtR]))
  | cons b t =>
   have em2 : l = t.reverse ++ b :: (a :: suf) := by rw [em]; simp
   have rb : rd l (t.length : Int) = b := by have := rd_mid' em2; simpa using this
   rw [wrap_of (by omega) (by omega), show (((b :: t).length : Nat) : Int) - 1 = (t.length : Int) by simp, rb]
   have hlb : ((b :: t).length : Int) = (t.length : Int) + 1 := by simp
   refine ev_pos (by omega) (ev_pos (by omega) (ev_pos (by omega) (ev_pos (by omega) (ev_pos (by omega) (ev_bind (less_ev a b) ?_)))))
   by_cases h : a < b
   · exact ev_pos (by simpa using h) (ev_now (by simp [srtR, h]))
   · refine ev_neg (by simpa using h) (ev_eq ?_ (show srtR (b :: t) = srtR (a :: b :: t) by simp [srtR, h]))
     have := ih (a :: suf) em (by simp)
     rwa [show (((b :: t).length : Nat) : Int) - 1 = (t.length : Int) by simp] at this
theorem isSorted_ev (l : List Int) (hl : l.length ≤ 1000) : Ev (fun k => impl_isSorted.f k l) (srtR l.reverse) := by
 unfold impl_isSorted.f slices_IsSorted_int_int.f
 rw [wrap_of (by omega) (by omega)]
 refine ev_bind (a := srtR l.reverse) ?_ (ev_now rfl)
 cases hl2 : l.reverse with
 | nil =>
  have : l = [] := by simpa using hl2
  subst this
  refine ev_succ ?_
  simp only [slices_IsSorted_int_int.l0.eq_2]
  exact ev_neg (by simp) (ev_now (by simp [srtR]))
 | cons a t =>
  have e : l = (a :: t).reverse ++ [] := by rw [← hl2]; simp
  have := sorted_l l hl (a :: t) [] e (by simp)
  rwa [show ((a :: t).length : Int) = (l.length : Int) by rw [← hl2]; simp] at this

/-! ### what comes out by a word -/
theorem spec_run_l (l : List Int) (w : ByteArray) (hl : l.length ≤ 7) (hw : w.size ≤ 14) : ∀ (suf pre rem done st out : List Int), bytesOf w = pre ++ suf → l = done ++ rem → wGo suf (st.length : Int) = true → suf.length = 2 * rem.length + st.length → out.length + st.length ≤ 7 → done.length = out.length + st.length → Ev (fun k => spec_l2Run.l0 k l w out.reverse st.reverse (done.length : Int) (pre.length : Int)) (runGo suf rem st out) := by
 intro suf
 induction suf with
 | nil =>
  intro pre rem done st out e el hg h2 h3 h4
  have h := size_end e
  refine ev_succ ?_
  simp only [spec_l2Run.l0.eq_2]
  exact ev_neg (by omega) (ev_now (by simp [runGo]))
 | cons c suf ih =>
  intro pre rem done st out e el hg h2 h3 h4
  have h := size_mid e
  simp only [List.length_cons] at h2
  refine ev_succ ?_
  simp only [spec_l2Run.l0.eq_2, bt_mid e]
  rw [wrap_snoc (pre := pre) (c := c) (by omega)]
  refine ev_pos (by omega) (ev_pos (by omega) ?_)
  by_cases hI : c = 73
  · subst hI
    rw [wGo_in] at hg
    have hlen := wGo_len _ _ (by omega) hg
    cases rem with
    | nil => simp only [List.length_nil] at h2; omega
    | cons x rem =>
     have hd := len_mid el
     simp only [List.length_cons] at h2
     rw [rd_mid' el, wrap_snoc (pre := done) (c := x) (by omega), show st.reverse ++ [x] = (x :: st).reverse by simp]
     refine ev_pos rfl (ev_pos (by omega) (ev_pos (by omega) (ev_pos (by simp; omega) ?_)))
     refine ev_eq (ih _ rem (done ++ [x]) (x :: st) out (snoc_mid e) (snoc_mid el) ?_ ?_ ?_ ?_) ?_
     · simpa using hg
     · simp only [List.length_cons]; omega
     · simp only [List.length_cons]; omega
     · simp; omega
     · simp [runGo]
  · by_cases hO : c = 79
    · subst hO
      rw [wGo_out] at hg
      by_cases hd : (st.length : Int) > 0
      · rw [if_pos hd] at hg
        cases st with
        | nil => simp at hd
        | cons x st =>
         simp only [List.length_cons] at hg h2 h3 h4
         have hlen : ((x :: st).reverse.length : Int) = st.length + 1 := by simp
         rw [wrap_of (x := ((x :: st).reverse.length : Int) - 1) (by omega) (by omega), top_rev, pop_rev, show out.reverse ++ [x] = (x :: out).reverse by simp]
         refine ev_neg hI (ev_pos (by omega) (ev_pos (by omega) (ev_pos (by simp; omega) (ev_pos (by omega) ?_))))
         refine ev_eq (ih _ rem done st (x :: out) (snoc_mid e) el ?_ ?_ ?_ ?_) ?_
         · rw [show ((st.length : Nat) : Int) = ((st.length + 1 : Nat) : Int) - 1 by omega]; exact hg
         · omega
         · simp only [List.length_cons]; omega
         · simp only [List.length_cons]; omega
         · simp [runGo]
      · rw [if_neg hd] at hg; cases hg
    · simp only [wGo] at hg
      rw [if_neg hI, if_neg hO] at hg; cases hg
theorem spec_run_ev (l : List Int) (w : ByteArray) (hl : l.length ≤ 7) (hg : wGo (bytesOf w) 0 = true) (hw : w.size = 2 * l.length) : Ev (fun k => spec_l2Run.f k l w) (runL l (bytesOf w)) := by
 unfold spec_l2Run.f
 exact spec_run_l l w hl (by omega) (bytesOf w) [] l [] [] [] rfl rfl (by simpa using hg) (by rw [bytes_len]; simp; omega) (by simp) (by simp)

theorem impl_run_l (w : ByteArray) (hw : w.size ≤ 14) : ∀ (suf pre rem st out : List Int), bytesOf w = pre ++ suf → wGo suf (st.length : Int) = true → suf.length = 2 * rem.length + st.length → out.length + st.length + rem.length ≤ 7 → Ev (fun k => impl_runWord.l0 k rem w st.reverse out.reverse (w.size : Int) (pre.length : Int)) (runGo suf rem st out) := by
 intro suf
 induction suf with
 | nil =>
  intro pre rem st out e hg h2 h3
  have h := size_end e
  refine ev_succ ?_
  simp only [impl_runWord.l0.eq_2]
  exact ev_neg (by omega) (ev_now (by simp [runGo]))
 | cons c suf ih =>
  intro pre rem st out e hg h2 h3
  have h := size_mid e
  simp only [List.length_cons] at h2
  refine ev_succ ?_
  simp only [impl_runWord.l0.eq_2, bt_mid e]
  rw [wrap_snoc (pre := pre) (c := c) (by omega)]
  refine ev_pos (by omega) (ev_pos (by omega) (ev_pos (by omega) ?_))
  by_cases hI : c = 73
  · subst hI
    rw [wGo_in] at hg
    have hlen := wGo_len _ _ (by omega) hg
    cases rem with
    | nil => simp only [List.length_nil] at h2; omega
    | cons x rem =>
     simp only [List.length_cons] at h2 h3
     rw [show rd (x :: rem) 0 = x from rfl, show st.reverse ++ [x] = (x :: st).reverse by simp, show (x :: rem).drop 1 = rem from rfl]
     refine ev_pos rfl (ev_pos (by simp only [List.length_cons]; omega) (ev_pos (by simp; omega) (ev_pos (by simp only [List.length_cons]; omega) ?_)))
     refine ev_eq (ih _ rem (x :: st) out (snoc_mid e) ?_ ?_ ?_) ?_
     · simpa using hg
     · simp only [List.length_cons]; omega
     · simp only [List.length_cons]; omega
     · simp [runGo]
  · by_cases hO : c = 79
    · subst hO
      rw [wGo_out] at hg
      by_cases hd : (st.length : Int) > 0
      · rw [if_pos hd] at hg
        cases st with
        | nil => simp at hd
        | cons x st =>
         simp only [List.length_cons] at hg h2 h3
         have hlen : ((x :: st).reverse.length : Int) = st.length + 1 := by simp
         rw [wrap_of (x := ((x :: st).reverse.length : Int) - 1) (by omega) (by omega), top_rev, pop_rev, show out.reverse ++ [x] = (x :: out).reverse by simp]
         refine ev_neg hI (ev_pos (by omega) (ev_pos (by omega) (ev_pos (by simp; omega) (ev_pos (by omega) ?_))))
         refine ev_eq (ih _ rem st (x :: out) (snoc_mid e) ?_ ?_ ?_) ?_
         · rw [show ((st.length : Nat) : Int) = ((st.length + 1 : Nat) : Int) - 1 by omega]; exact hg
         · omega
         · simp only [List.length_cons]; omega
         · simp [runGo]
      · rw [if_neg hd] at hg; cases hg
    · simp only [wGo] at hg
      rw [if_neg hI, if_neg hO] at hg; cases hg
theorem impl_run_ev (l : List Int) (w : ByteArray) (hl : l.length ≤ 7) (hg : wGo (bytesOf w) 0 = true) (hw : w.size = 2 * l.length) : Ev (fun k => impl_runWord.f k l w) (runL l (bytesOf w)) := by
 unfold impl_runWord.f
 exact impl_run_l w (by omega) (bytesOf w) [] l [] [] rfl (by simpa using hg) (by rw [bytes_len]; simp; omega) (by simp; omega)

/-! ### the word of the sweep -/
theorem popG_sum (b : Int) : ∀ (st out : List Int), (impl_sweepWord.popG b st out).1.length + (impl_sweepWord.popG b st out).2.length = st.length + out.length := by
 intro st
 induction st with
 | nil => intro out; simp [impl_sweepWord.popG]
 | cons x s ih =>
  intro out
  simp only [impl_sweepWord.popG]
  split
  · rw [ih]; simp; omega
  · rfl
theorem popG_less (b : Int) : ∀ (st out : List Int), (impl_sweepWord.popG b st out).1.length ≤ st.length := by
 intro st
 induction st with
 | nil => intro out; simp [impl_sweepWord.popG]
 | cons x s ih =>
  intro out
  simp only [impl_sweepWord.popG]
  split
  · exact Nat.le_trans (ih _) (by simp)
  · exact Nat.le_refl _
theorem popG_mem (b : Int) : ∀ (st out : List Int), ∀ y ∈ (impl_sweepWord.popG b st out).1, y ∈ st := by
 intro st
 induction st with
 | nil => intro out y h; simp [impl_sweepWord.popG] at h
 | cons x s ih =>
  intro out y
  simp only [impl_sweepWord.popG]
  split
  · intro h; exact List.mem_cons_of_mem _ (ih _ y h)
  · exact fun h => h
theorem pop8 : ∀ (st out : List Int), (∀ x ∈ st, x < 8) → impl_sweepWord.popG 8 st out = ([], out ++ List.replicate st.length 79) := by
 intro st
 induction st with
 | nil => intro out _; simp [impl_sweepWord.popG]
 | cons x s ih =>
  intro out h
  rw [impl_sweepWord.popG, if_pos (h x (by simp)), ih _ (fun y hy => h y (by simp [hy]))]
  simp [List.replicate_succ]
theorem ord_small {l : List Int} (h : isOrd l = true) : ∀ x ∈ l, x < 8 := fun x hx => by
 have := ord_range h x hx; have := (ord_len h).2; omega
theorem impl_sweepword_ev (l : List Int) (h : isOrd l = true) : Ev (fun _ => impl_sweepWord.f l) (strOfNums (impl_sweepWord.goG l [] [])) := by
 unfold impl_sweepWord.f
 have := (ord_len h).2
 exact ev_pos (by omega) (ev_now rfl)

theorem spec_sw_2 : ∀ (j : Nat) (st out : List Int) (i : Nat), st.length = i + j → out.length + j ≤ 100 → st.length ≤ 100 → Ev (fun k => spec_l4SweepWord.l2 k (strOfNums out) st.reverse (i : Int)) (strOfNums (out ++ List.replicate j 79)) := by
 intro j
 induction j with
 | zero =>
  intro st out i h ho hs
  refine ev_succ ?_
  simp only [spec_l4SweepWord.l2.eq_2]
  exact ev_neg (by simp; omega) (ev_now (by simp))
 | succ j ih =>
  intro st out i h ho hs
  have hsz : (strOfNums out).size = out.length := str_size out
  refine ev_succ ?_
  simp only [spec_l4SweepWord.l2.eq_2, str_snocO]
  rw [wrap_of (by omega) (by omega), show (i : Int) + 1 = ((i + 1 : Nat) : Int) by omega]
  refine ev_pos (by simp; omega) (ev_pos (by omega) (ev_eq (ih st (out ++ [79]) (i + 1) (by omega) (by simp; omega) hs) ?_))
  simp [List.replicate_succ]
theorem spec_sw_1 (l : List Int) (n : Int) (i : Nat) (hi : i < l.length) (hl : l.length ≤ 7) (hn : rd l (i : Int) = n) (R : ByteArray) : ∀ (st out : List Int), st.length + out.length ≤ 100 →
 Ev (fun k => spec_l4SweepWord.l0 k l (strOfNums ((impl_sweepWord.popG n st out).2 ++ [73])) (n :: (impl_sweepWord.popG n st out).1).reverse (wrap64 ((i : Int) + 1))) R →
 Ev (fun k => spec_l4SweepWord.l1 k l (strOfNums out) st.reverse (i : Int)) R := by
 intro st
 induction st with
 | nil =>
  intro out h hR
  have hsz : (strOfNums out).size = out.length := str_size out
  refine ev_succ ?_
  simp only [spec_l4SweepWord.l1.eq_2, hn, str_snocI]
  refine ev_neg (by simp) (ev_pos (by omega) (ev_pos (by omega) (ev_pos (by simp) (ev_pos (by simp at h; omega) ?_))))
  simpa [impl_sweepWord.popG] using hR
 | cons x s ih =>
  intro out h hR
  simp only [List.length_cons] at h
  have hsz : (strOfNums out).size = out.length := str_size out
  have hl2 : ((x :: s).reverse.length : Int) = (s.length : Int) + 1 := by simp
  refine ev_succ ?_
  simp only [spec_l4SweepWord.l1.eq_2, hn, str_snocI, str_snocO]
  rw [wrap_of (x := ((x :: s).reverse.length : Int) - 1) (by omega) (by omega), top_rev, pop_rev]
  refine ev_pos (by omega) (ev_pos (by omega) (ev_pos (by omega) (ev_pos (by omega) (ev_pos (by omega) ?_))))
  by_cases hx : x < n
  · rw [impl_sweepWord.popG, if_pos hx] at hR
    exact ev_pos hx (ev_pos (by omega) (ev_pos (by omega) (ih (out ++ [79]) (by simp; omega) hR)))
  · rw [impl_sweepWord.popG, if_neg hx] at hR
    exact ev_neg hx (ev_pos (by simp; omega) (ev_pos (by omega) (by simpa using hR)))
theorem spec_sw_0 (l : List Int) (hl : l.length ≤ 7) (h8 : ∀ x ∈ l, x < 8) : ∀ (suf pre st out : List Int), l = pre ++ suf → (∀ x ∈ st, x < 8) → st.length ≤ pre.length → st.length + out.length = 2 * pre.length →
 Ev (fun k => spec_l4SweepWord.l0 k l (strOfNums out) st.reverse (pre.length : Int)) (strOfNums (impl_sweepWord.goG suf st out)) := by
 intro suf
 induction suf with
 | nil =>
  intro pre st out e hs h1 h2
  have h := len_end e
  refine ev_succ ?_
  simp only [spec_l4SweepWord.l0.eq_2]
  refine ev_neg (by omega) (ev_eq (spec_sw_2 st.length st out 0 (by omega) (by omega) (by omega)) ?_)
  rw [impl_sweepWord.goG, pop8 _ _ hs]
 | cons c suf ih =>
  intro pre st out e hs h1 h2
  have h := len_mid e
  have hp1 := popG_sum c st out
  have hp2 := popG_less c st out
  refine ev_succ ?_
  simp only [spec_l4SweepWord.l0.eq_2]
  refine ev_pos (by omega) (spec_sw_1 l c pre.length (by omega) hl (rd_mid' e) _ st out (by omega) ?_)
  rw [wrap_snoc (pre := pre) (c := c) (by omega)]
  refine ev_eq (ih _ _ _ (snoc_mid e) ?_ (by simp; omega) (by simp; omega)) (by rw [impl_sweepWord.goG])
  intro x hx
  rcases List.mem_cons.1 hx with hx | hx
  · rw [hx]; exact h8 c (by rw [e]; simp)
  · exact hs x (popG_mem c st out x hx)
theorem spec_sweepword_ev (l : List Int) (h : isOrd l = true) : Ev (fun k => spec_l4SweepWord.f k l) (strOfNums (impl_sweepWord.goG l [] [])) := by
 unfold spec_l4SweepWord.f
 have := spec_sw_0 l (ord_len h).2 (ord_small h) l [] [] [] rfl (by simp) (by simp) (by simp)
 simpa [str_nil] using this

/-! ### the sweep's word is a word -/
theorem popG_form (n : Int) : ∀ (st out : List Int), ∃ (j : Nat) (s : List Int), impl_sweepWord.popG n st out = (s, out ++ List.replicate j 79) ∧ st.length = j + s.length ∧ (∀ y ∈ s, y ∈ st) := by
 intro st
 induction st with
 | nil => intro out; exact ⟨0, [], by simp [impl_sweepWord.popG], rfl, fun _ h => h⟩
 | cons x s ih =>
  intro out
  by_cases hx : x < n
  · obtain ⟨j, s', h1, h2, h3⟩ := ih (out ++ [79])
    refine ⟨j + 1, s', ?_, by simp; omega, fun y hy => List.mem_cons_of_mem _ (h3 y hy)⟩
    rw [impl_sweepWord.popG, if_pos hx, h1]
    simp [List.replicate_succ]
  · exact ⟨0, x :: s, by rw [impl_sweepWord.popG, if_neg hx]; simp, by simp, fun _ h => h⟩
theorem wGo_rep : ∀ (j : Nat) (r : List Int) (d : Nat), j ≤ d → wGo (List.replicate j 79 ++ r) (d : Int) = wGo r ((d - j : Nat) : Int) := by
 intro j
 induction j with
 | zero => intro r d h; simp
 | succ j ih =>
  intro r d h
  rw [List.replicate_succ, List.cons_append, wGo_out, if_pos (by omega), show (d : Int) - 1 = ((d - 1 : Nat) : Int) by omega, ih r (d - 1) (by omega)]
  congr 2
  omega
theorem goG_word : ∀ (suf st out : List Int), (∀ x ∈ st, x < 8) → (∀ x ∈ suf, x < 8) → ∃ r, impl_sweepWord.goG suf st out = out ++ r ∧ wGo r (st.length : Int) = true ∧ r.length = 2 * suf.length + st.length ∧ (∀ c ∈ r, c = 73 ∨ c = 79) := by
 intro suf
 induction suf with
 | nil =>
  intro st out hs _
  refine ⟨List.replicate st.length 79, by rw [impl_sweepWord.goG, pop8 _ _ hs], ?_, by simp, fun c hc => .inr (List.eq_of_mem_replicate hc)⟩
  have := wGo_rep st.length [] st.length (Nat.le_refl _)
  rw [List.append_nil] at this
  rw [this]
  simp [wGo]
 | cons n t ih =>
  intro st out hs ht
  obtain ⟨j, s, h1, h2, h3⟩ := popG_form n st out
  obtain ⟨r, g1, g2, g3, g4⟩ := ih (n :: s) (out ++ List.replicate j 79 ++ [73]) (by
   intro x hx
   rcases List.mem_cons.1 hx with hx | hx
   · rw [hx]; exact ht n (by simp)
   · exact hs x (h3 x hx)) (fun x hx => ht x (by simp [hx]))
  refine ⟨List.replicate j 79 ++ 73 :: r, ?_, ?_, ?_, ?_⟩
  · rw [impl_sweepWord.goG, h1, g1]; simp
  · rw [wGo_rep j _ st.length (by omega), wGo_in]
    have e : ((st.length - j : Nat) : Int) + 1 = ((n :: s).length : Int) := by simp; omega
    rw [e]; exact g2
  · simp at g3 ⊢; omega
  · intro c hc
    rcases List.mem_append.1 hc with hc | hc
    · exact .inr (List.eq_of_mem_replicate hc)
    · rcases List.mem_cons.1 hc with hc | hc
      · exact .inl hc
      · exact g4 c hc
def swW (l : List Int) : ByteArray := strOfNums (impl_sweepWord.goG l [] [])
theorem swW_ok {l : List Int} (h : isOrd l = true) : bytesOf (swW l) = impl_sweepWord.goG l [] [] ∧ wGo (bytesOf (swW l)) 0 = true ∧ (swW l).size = 2 * l.length := by
 obtain ⟨r, g1, g2, g3, g4⟩ := goG_word l [] [] (by simp) (ord_small h)
 rw [List.nil_append] at g1
 have hb : bytesOf (swW l) = impl_sweepWord.goG l [] [] := by
  unfold swW
  refine bytes_str (fun x hx => ?_)
  rw [g1] at hx
  rcases g4 x hx with h | h <;> omega
 refine ⟨hb, ?_, ?_⟩
 · rw [hb, g1]; exact g2
 · unfold swW; rw [str_size, g1, g3]; simp
def sweepL (l : List Int) : List Int := runL l (bytesOf (swW l))
theorem sweepL_length {l : List Int} (h : isOrd l = true) : (sweepL l).length ≤ 14 := by
 obtain ⟨h1, h2, h3⟩ := swW_ok h
 have := runGo_length (bytesOf (swW l)) l [] []
 rw [bytes_len, h3] at this
 have h7 := (ord_len h).2
 unfold sweepL runL; simp at this; omega

theorem impl_sweep_ev (l : List Int) (h : isOrd l = true) : Ev (fun k => impl_sweep.f k l) (sweepL l) := by
 unfold impl_sweep.f
 obtain ⟨h1, h2, h3⟩ := swW_ok h
 exact ev_bind (impl_sweepword_ev l h) (ev_bind (impl_run_ev l (swW l) (ord_len h).2 h2 h3) (ev_now rfl))

theorem spec_sweep_ev (l : List Int) (h : isOrd l = true) : Ev (fun k => spec_l4Sweep.f k l) (sweepL l) := by
 unfold spec_l4Sweep.f
 obtain ⟨h1, h2, h3⟩ := swW_ok h
 exact ev_bind (spec_sweepword_ev l h) (ev_bind (spec_run_ev l (swW l) (ord_len h).2 h2 h3) (ev_now rfl))

/-! ### Is it a word? How deep? -/
theorem spec_word_l (w : ByteArray) (hw : w.size ≤ 140737488351232) : ∀ (suf pre : List Int) (d : Int), bytesOf w = pre ++ suf → 0 ≤ d → d ≤ pre.length → Ev (fun k => spec_l2Word.l0 k w d (pre.length : Int)) (wGo suf d) := by
 intro suf
 induction suf with
 | nil =>
  intro pre d e h0 h1
  have h := size_end e
  refine ev_succ ?_
  simp only [spec_l2Word.l0.eq_2]
  exact ev_neg (by omega) (ev_now rfl)
 | cons c suf ih =>
  intro pre d e h0 h1
  have h := size_mid e
  refine ev_succ ?_
  simp only [spec_l2Word.l0.eq_2, bt_mid e]
  refine ev_pos (by omega) (ev_pos (by omega) ?_)
  by_cases hI : c = 73
  · refine ev_pos hI ?_
    rw [wrap_snoc (pre := pre) (c := c) (by omega), wrap_of (x := d + 1) (by omega) (by omega)]
    refine ev_eq (ih _ (d + 1) (snoc_mid e) (by omega) (by simp; omega)) ?_
    simp only [wGo]; rw [if_pos hI]
  · refine ev_neg hI ?_
    by_cases hO : c = 79
    · refine ev_pos hO ?_
      by_cases hd : d > 0
      · refine ev_pos hd ?_
        rw [wrap_snoc (pre := pre) (c := c) (by omega), wrap_of (x := d - 1) (by omega) (by omega)]
        refine ev_eq (ih _ (d - 1) (snoc_mid e) (by omega) (by simp; omega)) ?_
        simp only [wGo]; rw [if_neg hI, if_pos hO, if_pos hd]
      · refine ev_neg hd (ev_now ?_)
        simp only [wGo]; rw [if_neg hI, if_pos hO, if_neg hd]
    · refine ev_neg hO (ev_now ?_)
      simp only [wGo]; rw [if_neg hI, if_neg hO]
theorem spec_word_ev (w : ByteArray) (n : Int) (hw : w.size ≤ 140737488351232) (h0 : 0 ≤ n) (h1 : n ≤ 140737488351232) : Ev (fun k => spec_l2Word.f k w n) (decide ((w.size : Int) = 2 * n) && wGo (bytesOf w) 0) := by
 unfold spec_l2Word.f
 rw [wrap_of (by omega) (by omega)]
 by_cases h : (w.size : Int) = 2 * n
 · refine ev_pos h (ev_eq (spec_word_l w hw (bytesOf w) [] 0 rfl (by omega) (by simp)) ?_)
   simp [h]
 · exact ev_neg h (ev_now (by simp [h]))

theorem spec_any_ev (w : ByteArray) (hw : w.size ≤ 140737488351232) : Ev (fun k => spec_l2Any.f k w) (isWd (bytesOf w)) := by
 unfold spec_l2Any.f
 refine ev_bind (in_ev _ _ _) ?_
 have hb := bytes_len w
 by_cases h : 2 ≤ w.size ∧ w.size ≤ 14
 · refine ev_pos (by simp; omega) ?_
   rw [wrap_of (by omega) (by omega)]
   refine ev_bind (spec_word_ev w ((w.size : Int) / 2) hw (by omega) (by omega)) (ev_now ?_)
   unfold isWd
   rw [hb]
   by_cases hg : wGo (bytesOf w) 0 = true
   · have := wGo_even _ _ hg
     rw [hb] at this
     have e : (w.size : Int) = 2 * ((w.size : Int) / 2) := by omega
     simp [hg, h.1, h.2, ← e]
   · simp [hg]
 · refine ev_neg (by simp; omega) (ev_now ?_)
   unfold isWd
   rw [hb]
   by_cases h2 : 2 ≤ w.size
   · have : ¬ w.size ≤ 14 := fun h3 => h ⟨h2, h3⟩
     simp [this]
   · simp [h2]

theorem isSize_ev (n : Int) : Ev (fun _ => impl_isSize.f n) (decide (1 ≤ n) && decide (n ≤ 7)) := by
 unfold impl_isSize.f
 by_cases h : n ≥ 1
 · refine ev_pos h (ev_now ?_)
   have : decide (1 ≤ n) = true := decide_eq_true h
   rw [this]; rfl
 · refine ev_neg h (ev_now ?_)
   have : decide (1 ≤ n) = false := decide_eq_false (by omega)
   rw [this]; rfl

theorem depth_l (w : ByteArray) (hw : w.size ≤ 140737488351232) : ∀ (suf pre : List Int) (d m : Int), bytesOf w = pre ++ suf → 0 ≤ d → d ≤ pre.length → Ev (fun k => impl_depthOf.l0 k w d m (w.size : Int) (pre.length : Int)) (if wGo suf d = true ∧ 2 ≤ w.size ∧ w.size ≤ 15 then (wDeep suf d m, true) else (0, false)) := by
 intro suf
 induction suf with
 | nil =>
  intro pre d m e h0 h1
  have h := size_end e
  refine ev_succ ?_
  simp only [impl_depthOf.l0.eq_2]
  refine ev_neg (by omega) ?_
  by_cases hd : d = 0
  · refine ev_pos hd ?_
    rw [wrap_of (by omega) (by omega)]
    refine ev_bind (isSize_ev _) ?_
    by_cases hs : 2 ≤ w.size ∧ w.size ≤ 15
    · refine ev_pos (by simp; omega) (ev_now ?_)
      rw [if_pos ⟨by simp [wGo, hd], hs.1, hs.2⟩]; rfl
    · refine ev_neg (by simp; omega) (ev_now ?_)
      rw [if_neg (fun h => hs h.2)]
  · refine ev_neg hd (ev_now ?_)
    rw [if_neg (fun h => hd (by simpa [wGo] using h.1))]
 | cons c suf ih =>
  intro pre d m e h0 h1
  have h := size_mid e
  refine ev_succ ?_
  simp only [impl_depthOf.l0.eq_2, bt_mid e]
  refine ev_pos (by omega) (ev_pos (by omega) (ev_pos (by omega) ?_))
  rw [wrap_snoc (pre := pre) (c := c) (by omega), wrap_of (x := d + 1) (by omega) (by omega), wrap_of (x := d - 1) (by omega) (by omega)]
  by_cases hI : c = 73
  · refine ev_pos hI (ev_neg (by omega) ?_)
    refine ev_eq (ih _ (d + 1) _ (snoc_mid e) (by omega) (by simp; omega)) ?_
    subst hI; rw [wGo_in, wDeep_in]
  · refine ev_neg hI ?_
    by_cases hO : c = 79
    · refine ev_pos hO ?_
      by_cases hd : d > 0
      · refine ev_neg (by omega) ?_
        refine ev_eq (ih _ (d - 1) _ (snoc_mid e) (by omega) (by simp; omega)) ?_
        subst hO; rw [wGo_out, wDeep_out, if_pos hd]
      · refine ev_pos (by omega) (ev_now ?_)
        rw [if_neg]; simp only [wGo]; rw [if_neg hI, if_pos hO, if_neg hd]; simp
    · refine ev_neg hO (ev_now ?_)
      rw [if_neg]; simp only [wGo]; rw [if_neg hI, if_neg hO]; simp
theorem depth_ev (w : ByteArray) (hw : w.size ≤ 140737488351232) : Ev (fun k => impl_depthOf.f k w) (if isWd (bytesOf w) = true then (wDeep (bytesOf w) 0 0, true) else (0, false)) := by
 unfold impl_depthOf.f
 refine ev_eq (depth_l w hw (bytesOf w) [] 0 0 rfl (by omega) (by simp)) ?_
 have hb := bytes_len w
 by_cases h : isWd (bytesOf w) = true
 · have h' := (isWd_iff _).1 h
   rw [hb] at h'
   rw [if_pos h, if_pos ⟨h'.2, h'.1.1, by omega⟩]
 · rw [if_neg h, if_neg]
   intro ⟨h1, h2, h3⟩
   have := wGo_even _ _ h1
   rw [hb] at this
   exact h ((isWd_iff _).2 ⟨by rw [hb]; omega, h1⟩)

theorem isWord_ev (w : ByteArray) (hw : w.size ≤ 140737488351232) : Ev (fun k => impl_isWord.f k w) (isWd (bytesOf w)) := by
 unfold impl_isWord.f
 refine ev_bind (depth_ev w hw) (ev_now ?_)
 by_cases h : isWd (bytesOf w) = true
 · rw [if_pos h, h]
 · rw [if_neg h]; simpa using h

/-! ### RunWord: the program -/
theorem impl_runword_ev (l : List Int) (w : ByteArray) (hl : l.length ≤ 140737488351232) (hw : w.size ≤ 140737488351232) : Ev (fun k => impl_RunWord.f k l w) (runR l w) := by
 unfold impl_RunWord.f runR
 refine ev_bind (impl_order_ev l hl) ?_
 by_cases ho : isOrd l = true
 · have h7 := ord_len ho
   refine ev_pos ho (ev_bind (isWord_ev w hw) ?_)
   by_cases hg : isWd (bytesOf w) = true
   · refine ev_pos hg ?_
     rw [wrap_of (by omega) (by omega)]
     by_cases h : w.size = 2 * l.length
     · refine ev_pos (by omega) (ev_bind (impl_run_ev l w h7.2 ((isWd_iff _).1 hg).2 h) (ev_now ?_))
       rw [if_pos ⟨ho, hg, h⟩]
     · refine ev_neg (by omega) (ev_now ?_)
       rw [if_neg (fun h' => h h'.2.2)]
   · refine ev_neg hg (ev_now ?_)
     rw [if_neg (fun h' => hg h'.2.1)]
 · refine ev_neg ho (ev_now ?_)
   rw [if_neg (fun h' => ho h'.1)]
theorem runR_length (l : List Int) (w : ByteArray) : (runR l w).1.length ≤ 14 := by
 unfold runR
 split
 · rename_i h
   have := runGo_length (bytesOf w) l [] []
   have h7 := ord_len h.1
   rw [bytes_len] at this
   simp only [runL, List.length_nil] at this ⊢; omega
 · simp

/-! ### WordTo and RunWord undo one another -/
def runF : List Int → List Int → List Int → List Int
 | [], _, _ => []
 | c :: w, order, st => if c = 73 then runF w order.tail (order.headD 0 :: st) else st.headD 0 :: runF w order st.tail
theorem runGo_F : ∀ (w order st out : List Int), runGo w order st out = out.reverse ++ runF w order st := by
 intro w
 induction w with
 | nil => intro o s t; simp [runGo, runF]
 | cons c w ih =>
  intro o s t
  simp only [runGo, runF]
  by_cases h : c = 73
  · rw [if_pos h, if_pos h, ih]
  · rw [if_neg h, if_neg h, ih]; simp
theorem runL_F (o w : List Int) : runL o w = runF w o [] := by unfold runL; rw [runGo_F]; rfl
theorem runF_in (s o st : List Int) (c : Int) : runF (73 :: s) (c :: o) st = runF s o (c :: st) := by simp [runF]
theorem runF_out (s o st : List Int) (x : Int) : runF (79 :: s) o (x :: st) = x :: runF s o st := by simp [runF]
theorem wGo_le : ∀ (s : List Int) (d : Int), wGo s d = true → d ≤ s.length := by
 intro s
 induction s with
 | nil => intro d h; simp [wGo] at h; simp [h]
 | cons c s ih =>
  intro d h
  simp only [wGo] at h
  by_cases h1 : c = 73
  · rw [if_pos h1] at h; have := ih _ h; simp; omega
  · rw [if_neg h1] at h
    by_cases h2 : c = 79
    · rw [if_pos h2] at h
      by_cases h3 : d > 0
      · rw [if_pos h3] at h; have := ih _ h; simp; omega
      · rw [if_neg h3] at h; cases h
    · rw [if_neg h2] at h; cases h
theorem wGo_cons {c : Int} {s : List Int} {d : Int} (h : wGo (c :: s) d = true) : (c = 73 ∧ wGo s (d + 1) = true) ∨ (c = 79 ∧ d > 0 ∧ wGo s (d - 1) = true) := by
 simp only [wGo] at h
 by_cases h1 : c = 73
 · rw [if_pos h1] at h; exact .inl ⟨h1, h⟩
 · rw [if_neg h1] at h
   by_cases h2 : c = 79
   · rw [if_pos h2] at h
     by_cases h3 : d > 0
     · rw [if_pos h3] at h; exact .inr ⟨h2, h3, h⟩
     · rw [if_neg h3] at h; cases h
   · rw [if_neg h2] at h; cases h
theorem rem_some {s rem : List Int} {d : Nat} (h : wGo s ((d : Int) + 1) = true) (hl : s.length + 1 = 2 * rem.length + d) : ∃ c r, rem = c :: r := by
 cases rem with
 | nil => have := wGo_le _ _ h; simp at hl; omega
 | cons c r => exact ⟨c, r, rfl⟩
theorem run_perm : ∀ (s rem st : List Int), wGo s (st.length : Int) = true → s.length = 2 * rem.length + st.length → (runF s rem st).Perm (rem ++ st) := by
 intro s
 induction s with
 | nil =>
  intro rem st h hl
  have h1 : rem = [] := List.length_eq_zero_iff.1 (by simp at hl; omega)
  have h2 : st = [] := List.length_eq_zero_iff.1 (by simp at hl; omega)
  subst h1; subst h2; exact List.Perm.refl _
 | cons c s ih =>
  intro rem st h hl
  simp only [List.length_cons] at hl
  rcases wGo_cons h with ⟨rfl, h'⟩ | ⟨rfl, hd, h'⟩
  · obtain ⟨c, r, rfl⟩ := rem_some (s := s) (rem := rem) (d := st.length) h' (by omega)
    rw [runF_in]
    exact (ih r (c :: st) (by simpa using h') (by simp at hl ⊢; omega)).trans List.perm_middle
  · cases st with
    | nil => simp at hd
    | cons x st =>
     rw [runF_out]
     exact ((ih rem st (by simpa using h') (by simp at hl; omega)).cons x).trans List.perm_middle.symm

/-! ### BadTriple -/
def btB (l : List Int) : Bool := match fpR l [2, 3, 1], btI l l.length 0 with
 | ([a, b, c], true), some q => decide (q = (a, b, c))
 | (_, false), none => true
 | _, _ => false
theorem bt1 : (ordsN 1).all btB = true := by decide +kernel
theorem bt2 : (ordsN 2).all btB = true := by decide +kernel
theorem bt3 : (ordsN 3).all btB = true := by decide +kernel
theorem bt4 : (ordsN 4).all btB = true := by decide +kernel
theorem bt5 : (ordsN 5).all btB = true := by decide +kernel
theorem bt6 : (ordsN 6).all btB = true := by decide +kernel
theorem bt7_1 : ((permsN 6 [2, 3, 4, 5, 6, 7]).map (fun s => (1 : Int) :: s)).all btB = true := by decide +kernel
theorem bt7_2 : ((permsN 6 [1, 3, 4, 5, 6, 7]).map (fun s => (2 : Int) :: s)).all btB = true := by decide +kernel
theorem bt7_3 : ((permsN 6 [1, 2, 4, 5, 6, 7]).map (fun s => (3 : Int) :: s)).all btB = true := by decide +kernel
theorem bt7_4 : ((permsN 6 [1, 2, 3, 5, 6, 7]).map (fun s => (4 : Int) :: s)).all btB = true := by decide +kernel
theorem bt7_5 : ((permsN 6 [1, 2, 3, 4, 6, 7]).map (fun s => (5 : Int) :: s)).all btB = true := by decide +kernel
theorem bt7_6 : ((permsN 6 [1, 2, 3, 4, 5, 7]).map (fun s => (6 : Int) :: s)).all btB = true := by decide +kernel
theorem bt7_7 : ((permsN 6 [1, 2, 3, 4, 5, 6]).map (fun s => (7 : Int) :: s)).all btB = true := by decide +kernel
theorem bt7 : (ordsN 7).all btB = true := ord7_all btB bt7_1 bt7_2 bt7_3 bt7_4 bt7_5 bt7_6 bt7_7
theorem bt_ok {l : List Int} (h : isOrd l = true) : btB l = true := ord_all btB bt1 bt2 bt3 bt4 bt5 bt6 bt7 h
def btR (l : List Int) : (Int × Int × Int) × Bool := if isOrd l = true then btOut (btI l l.length 0) else ((0, 0, 0), false)
theorem bt_spec_ev (l : List Int) (hl0 : l.length ≤ 1048576) (hl : l.length ≤ 140737488351232) : Ev (fun k => spec_BadTriple.f k l) (btR l) := by
 unfold spec_BadTriple.f btR
 refine ev_pos hl0 ?_
 by_cases h1 : isOrd l = true
 · rw [if_pos h1]
   exact ev_bind (spec_order_ev l hl) (ev_now (by rw [if_pos h1]))
 · rw [if_neg h1]
   exact ev_bind (spec_order_ev l hl) (ev_now (by rw [if_neg h1]))
theorem bt_impl_ev (l : List Int) (hl : l.length ≤ 140737488351232) : Ev (fun k => impl_BadTriple.f k l) (btR l) := by
 unfold impl_BadTriple.f btR
 by_cases h1 : isOrd l = true
 · rw [if_pos h1]
   have hb := bt_ok h1
   have hf : impl_firstPlaces.f l [2, 3, 1] = some (fpR l [2, 3, 1]) := by
    unfold impl_firstPlaces.f; rw [if_pos ⟨(ord_len h1).2, by decide⟩]
   refine ev_bind (impl_order_ev l hl) (ev_pos h1 (ev_bind (ev_const hf) ?_))
   unfold btB at hb
   cases hq : fpR l [2, 3, 1] with
   | mk ps ok =>
    rw [hq] at hb
    cases hi : btI l l.length 0 with
    | none =>
     rw [hi] at hb
     cases ok with
     | true => rcases ps with _ | ⟨x, _ | ⟨y, _ | ⟨z, _ | ⟨u, t⟩⟩⟩⟩ <;> simp at hb
     | false => rcases ps with _ | ⟨x, _ | ⟨y, _ | ⟨z, _ | ⟨u, t⟩⟩⟩⟩ <;> exact ev_now rfl
    | some p =>
     rw [hi] at hb
     cases ok with
     | false => rcases ps with _ | ⟨x, _ | ⟨y, _ | ⟨z, _ | ⟨u, t⟩⟩⟩⟩ <;> simp at hb
     | true =>
      rcases ps with _ | ⟨x, _ | ⟨y, _ | ⟨z, _ | ⟨u, t⟩⟩⟩⟩
      · simp at hb
      · simp at hb
      · simp at hb
      · exact ev_now (by rw [of_decide_eq_true hb]; rfl)
      · simp at hb
 · rw [if_neg h1]
   exact ev_bind (impl_order_ev l hl) (ev_neg h1 (ev_now rfl))

theorem size_of_text {a : ByteArray} (h : ¬ a.toList = ([] : List UInt8)) : 1 ≤ a.size := by
 rcases Nat.eq_zero_or_pos a.size with h0 | h0
 · have e : a = ⟨#[]⟩ := ByteArray.ext (Array.eq_empty_of_size_eq_zero h0)
   exact absurd (by rw [e]; unfold ByteArray.toList; unfold ByteArray.toList.loop; rfl) h
 · exact h0
theorem spo_size (a x : ByteArray) (p : Nat) (r : Int) (hx : x.size ≤ 1) (hp : p < a.size) : (spo a x p r).size ≤ a.size + 1 := by
 unfold spo
 split
 · simp only [ByteArray.size_append, ByteArray.size_extract]; omega
 · split
   · simp only [ByteArray.size_append, ByteArray.size_extract]; omega
   · simp only [ByteArray.size_append, ByteArray.size_extract]; omega
theorem spoilt_ok2 {l : List Int} (hl : byteL l) (s1 s2 : Int) (a b : ByteArray) (h0 : 0 ≤ s1) (h1 : s1 ≤ 800000) (ha : a.size ≤ 100) (hb : 1 ≤ b.size) (hb2 : b.size ≤ 100) : ∃ t s1' s2', spec_l1Cur_spoilt.f l s1 s2 a b = some (t, s1', s2') ∧ t.size ≤ a.size + 1 ∧ s1 ≤ s1' ∧ s1' ≤ s1 + 3 := by
 unfold spec_l1Cur_spoilt.f
 by_cases h : a.toList = ([] : List UInt8)
 · rw [if_pos h, if_pos ⟨hb, by omega⟩]
   exact ⟨_, _, _, rfl, by rw [ByteArray.size_extract]; omega, by omega, by omega⟩
 · rw [if_neg h]
   have hs := size_of_text h
   obtain ⟨p, p1, p2, hp, hp0, hp1, hp2, hp3⟩ := pick_any hl s1 s2 (a.size : Int) h0 (by omega) (by omega) (by omega)
   obtain ⟨q, q1, q2, hq, hq0, hq1, hq2, hq3⟩ := pick_any hl p1 p2 (b.size : Int) (by omega) (by omega) (by omega) (by omega)
   obtain ⟨r, r1, r2, hr, hr0, hr1, hr2, hr3⟩ := pick_any hl q1 q2 3 (by omega) (by omega) (by omega) (by omega)
   rw [hp]
   simp only [Option.bind_some]
   rw [hq]
   simp only [Option.bind_some]
   rw [hr]
   simp only [Option.bind_some]
   rw [if_pos ⟨hp0, hp1, hq0, hq1, by omega, by omega⟩]
   exact ⟨_, _, _, rfl, spo_size _ _ _ _ (by simp only [ByteArray.size_extract]; omega) (by omega), by omega, by omega⟩

/-! ### words as they are drawn -/
theorem word_l {l : List Int} (hl : byteL l) (n : Nat) (hn : n ≤ 9) : ∀ (d : Nat) (x : ByteArray) (c s1 s2 : Int), x.size + d = 2 * n → 0 ≤ c → c ≤ x.size → 0 ≤ s1 → s1 + d ≤ 700000 →
 ∃ v, Ev (fun k => spec_l1Cur_word.l0 k (n : Int) x c l s1 s2) v ∧ v.1.size ≤ 2 * n + 1 ∧ 0 ≤ v.2.1 ∧ v.2.1 ≤ s1 + d + 10 := by
 intro d
 induction d with
 | zero =>
  intro x c s1 s2 hx h0 hc hs hs'
  obtain ⟨b, s3, s4, hb, hb1, hb2⟩ := one_any hl s1 s2 24 hs (by omega) (by omega) (by omega)
  cases b with
  | true =>
   have hsp := spoilt_ok2 hl s3 s4 x (⟨#[73, 79, 88]⟩ : ByteArray) (by omega) (by omega) (by omega) (by decide) (by decide)
   obtain ⟨t, s5, s6, ht, hts, h5, h6⟩ := hsp
   refine ⟨(t, s5, s6), ev_succ ?_, by simp only; omega, by simp only; omega, by simp only; omega⟩
   simp only [spec_l1Cur_word.l0.eq_2, hb]
   rw [wrap_of (x := 2 * (n : Int)) (by omega) (by omega)]
   refine ev_neg (by omega) (ev_let (ev_pos rfl ?_))
   simp only [ht]
   exact ev_let (ev_now rfl)
  | false =>
   refine ⟨(x, s3, s4), ev_succ ?_, by simp only; omega, by simp only; omega, by simp only; omega⟩
   simp only [spec_l1Cur_word.l0.eq_2, hb]
   rw [wrap_of (x := 2 * (n : Int)) (by omega) (by omega)]
   exact ev_neg (by omega) (ev_let (ev_neg (by simp) (ev_now rfl)))
 | succ d ih =>
  intro x c s1 s2 hx h0 hc hs hs'
  have hz : ∀ (b : UInt8), (x ++ (⟨#[b]⟩ : ByteArray)).size = x.size + 1 := fun b => by rw [ByteArray.size_append]; rfl
  have e1 : wrap64 (2 * (n : Int)) = 2 * (n : Int) := wrap_of (by omega) (by omega)
  have e2 : wrap64 (c + 1) = c + 1 := wrap_of (by omega) (by omega)
  have e3 : wrap64 (c - 1) = c - 1 := wrap_of (by omega) (by omega)
  by_cases hc0 : c = 0
  · obtain ⟨v, hv, h1, h2, h3⟩ := ih (x ++ (⟨#[73]⟩ : ByteArray)) (c + 1) s1 s2 (by rw [hz]; omega) (by omega) (by rw [hz]; omega) hs (by omega)
    refine ⟨v, ev_succ ?_, h1, h2, by omega⟩
    simp only [spec_l1Cur_word.l0.eq_2, e1, e2, e3]
    exact ev_pos (by omega) (ev_pos hc0 (ev_pos (by omega) hv))
  · have e4 : wrap64 (2 * (n : Int) - (x.size : Int)) = 2 * (n : Int) - (x.size : Int) := wrap_of (by omega) (by omega)
    by_cases hc1 : c < 2 * (n : Int) - (x.size : Int)
    · obtain ⟨b, s3, s4, hb, hb1, hb2⟩ := one_any hl s1 s2 2 hs (by omega) (by omega) (by omega)
      cases b with
      | true =>
       obtain ⟨v, hv, h1, h2, h3⟩ := ih (x ++ (⟨#[73]⟩ : ByteArray)) (c + 1) s3 s4 (by rw [hz]; omega) (by omega) (by rw [hz]; omega) (by omega) (by omega)
       refine ⟨v, ev_succ ?_, h1, h2, by omega⟩
       simp only [spec_l1Cur_word.l0.eq_2, e1, e2, e3, e4, hb]
       exact ev_pos (by omega) (ev_neg hc0 (ev_pos hc1 (ev_let (ev_pos rfl (ev_pos (by omega) hv)))))
      | false =>
       obtain ⟨v, hv, h1, h2, h3⟩ := ih (x ++ (⟨#[79]⟩ : ByteArray)) (c - 1) s3 s4 (by rw [hz]; omega) (by omega) (by rw [hz]; omega) (by omega) (by omega)
       refine ⟨v, ev_succ ?_, h1, h2, by omega⟩
       simp only [spec_l1Cur_word.l0.eq_2, e1, e2, e3, e4, hb]
       exact ev_pos (by omega) (ev_neg hc0 (ev_pos hc1 (ev_let (ev_neg (by simp) (ev_pos (by omega) hv)))))
    · obtain ⟨v, hv, h1, h2, h3⟩ := ih (x ++ (⟨#[79]⟩ : ByteArray)) (c - 1) s1 s2 (by rw [hz]; omega) (by omega) (by rw [hz]; omega) hs (by omega)
      refine ⟨v, ev_succ ?_, h1, h2, by omega⟩
      simp only [spec_l1Cur_word.l0.eq_2, e1, e2, e3, e4]
      exact ev_pos (by omega) (ev_neg hc0 (ev_neg hc1 (ev_pos (by omega) hv)))
theorem word_ok {l : List Int} (hl : byteL l) (n : Nat) (hn : n ≤ 9) (s1 s2 : Int) (h0 : 0 ≤ s1) (h1 : s1 ≤ 600000) : ∃ v, Ev (fun k => spec_l1Cur_word.f k l s1 s2 (n : Int)) v ∧ v.1.size ≤ 2 * n + 1 ∧ 0 ≤ v.2.1 ∧ v.2.1 ≤ s1 + 100 := by
 obtain ⟨v, hv, h2, h3, h4⟩ := word_l hl n hn (2 * n) (⟨#[]⟩ : ByteArray) 0 s1 s2 (by show 0 + 2 * n = 2 * n; omega) (by omega) (by show (0 : Int) ≤ ((0 : Nat) : Int); omega) h0 (by omega)
 exact ⟨v, by unfold spec_l1Cur_word.f; exact hv, h2, h3, by omega⟩

/-! ### InverseOrder -/
theorem spec_inv_l (l : List Int) (hl : l.length ≤ 7) (hr : ∀ x ∈ l, 1 ≤ x ∧ x ≤ (l.length : Int)) : ∀ (suf pre acc : List Int), l = pre ++ suf → acc.length = l.length → Ev (fun k => spec_l2Inverse.l0 k l acc (pre.length : Int)) (invGo suf pre.length acc) := by
 intro suf
 induction suf with
 | nil =>
  intro pre acc e ho
  have h := len_end e
  refine ev_succ ?_
  simp only [spec_l2Inverse.l0.eq_2]
  exact ev_neg (by omega) (ev_now rfl)
 | cons c suf ih =>
  intro pre acc e ho
  have h := len_mid e
  have hc := hr c (by rw [e]; simp)
  refine ev_succ ?_
  simp only [spec_l2Inverse.l0.eq_2, rd_mid' e]
  rw [wrap_of (x := c - 1) (by omega) (by omega), wrap_snoc (pre := pre) (c := c) (by omega)]
  refine ev_pos (by omega) (ev_pos (by omega) (ev_pos (by omega) (ev_pos (by omega) ?_)))
  refine ev_eq (ih _ _ (snoc_mid e) ?_) ?_
  · simp [ho]
  · simp [invGo]
theorem spec_inv_ev (l : List Int) (ho : isOrd l = true) : Ev (fun k => spec_l2Inverse.f k l) (inv l) := by
 have h7 := ord_len ho
 unfold spec_l2Inverse.f
 refine ev_pos (by omega) (ev_pos (by omega) ?_)
 exact spec_inv_l l h7.2 (ord_range ho) l [] _ rfl (by simp)

/-! ### OrderOfWord: over all words, by the kernel's own reckoning -/
def ordChk (n : Nat) : Bool := (wordsC (n + n) n n).all fun w => decide (spec_OrderOfWord.f 60 (strOfNums w) = some (ordWd w, true)) && decide (impl_OrderOfWord.f 60 (strOfNums w) = some (ordWd w, true)) && decide ((ordWd w).length = n)
theorem ordChk1 : ordChk 1 = true := by decide +kernel
theorem ordChk2 : ordChk 2 = true := by decide +kernel
theorem ordChk3 : ordChk 3 = true := by decide +kernel
theorem ordChk4 : ordChk 4 = true := by decide +kernel
theorem ordChk5 : ordChk 5 = true := by decide +kernel
theorem ordChk6 : ordChk 6 = true := by decide +kernel
theorem ordChk7 : ordChk 7 = true := by decide +kernel
theorem ordChk_all (n : Nat) (h1 : 1 ≤ n) (h7 : n ≤ 7) : ordChk n = true := by
 obtain rfl | rfl | rfl | rfl | rfl | rfl | rfl : n = 1 ∨ n = 2 ∨ n = 3 ∨ n = 4 ∨ n = 5 ∨ n = 6 ∨ n = 7 := by omega
 · exact ordChk1
 · exact ordChk2
 · exact ordChk3
 · exact ordChk4
 · exact ordChk5
 · exact ordChk6
 · exact ordChk7
theorem ord_words (w : ByteArray) (h : isWd (bytesOf w) = true) : spec_OrderOfWord.f 60 w = some (ordWd (bytesOf w), true) ∧ impl_OrderOfWord.f 60 w = some (ordWd (bytesOf w), true) ∧ (ordWd (bytesOf w)).length ≤ 7 := by
 obtain ⟨n, h1, h7, _, hm⟩ := isWd_mem h
 have hc := ordChk_all n h1 h7
 unfold ordChk at hc
 have := List.all_eq_true.1 hc _ hm
 simp only [Bool.and_eq_true, decide_eq_true_eq, str_bytes] at this
 exact ⟨this.1.1, this.1.2, by omega⟩
theorem spec_orderofword_ev (w : ByteArray) (hw : w.size ≤ 140737488351232) : Ev (fun k => spec_OrderOfWord.f k w) (ordWdR w) := by
 by_cases h : isWd (bytesOf w) = true
 · have := Ev.of (fun k => spec_OrderOfWord.mono _ k) (ord_words w h).1
   unfold ordWdR; rw [onWd_pos h]; exact this
 · unfold spec_OrderOfWord.f ordWdR
   rw [onWd_neg h]
   exact ev_bind (spec_any_ev w hw) (ev_neg h (ev_now rfl))
theorem impl_orderofword_ev (w : ByteArray) (hw : w.size ≤ 140737488351232) : Ev (fun k => impl_OrderOfWord.f k w) (ordWdR w) := by
 by_cases h : isWd (bytesOf w) = true
 · have := Ev.of (fun k => impl_OrderOfWord.mono _ k) (ord_words w h).2.1
   unfold ordWdR; rw [onWd_pos h]; exact this
 · unfold impl_OrderOfWord.f ordWdR
   rw [onWd_neg h]
   exact ev_bind (isWord_ev w hw) (ev_neg h (ev_now rfl))
theorem ordWdR_length (w : ByteArray) : (ordWdR w).1.length ≤ 7 := by
 by_cases h : isWd (bytesOf w) = true
 · unfold ordWdR; rw [onWd_pos h]; exact (ord_words w h).2.2
 · unfold ordWdR; rw [onWd_neg h]; simp

/-! ### The reference's count of what goes on -/
theorem ends_tab : ∀ i : Fin 16, ∀ j : Fin 15, spec_l4Ends.f 300 ((i.val : Nat) : Int) ((j.val : Nat) : Int) = some ((endsT i.val j.val : Nat) : Int) := by decide +kernel
theorem ends_ev (i j : Nat) (hi : i ≤ 15) (hj : j ≤ 14) : Ev (fun k => spec_l4Ends.f k (i : Int) (j : Int)) ((endsT i j : Nat) : Int) :=
 Ev.of (fun k => spec_l4Ends.mono _ _ k) (ends_tab ⟨i, by omega⟩ ⟨j, by omega⟩)
/-- Behind 'I': b - a + 1 numbers on the stack, a + b - 1 signs left. -/
theorem endsT_in (a b : Nat) (hab : a ≤ b) (h : 0 < a + b) : endsT (b - a + 1) (a + b - 1) = if a > 0 then cw (a + b - 1) (a - 1) b else 0 := by
 unfold endsT
 by_cases ha : a > 0
 · rw [if_pos ⟨by omega, by omega⟩, if_pos ha]
   congr 1 <;> omega
 · rw [if_neg (fun h => by omega), if_neg ha]

/-! ### The program's count of what goes on -/
theorem cw_ev : ∀ (r a b : Nat), a + b = r → a ≤ b → r ≤ 14 → Ev (fun k => impl_countWords.f k (a : Int) (b : Int)) ((cw r a b : Nat) : Int) := by
 intro r
 induction r with
 | zero =>
  intro a b h1 h2 h3
  refine ev_succ ?_
  simp only [impl_countWords.f.eq_2]
  exact ev_pos (by omega) (ev_now (by simp [cw]))
 | succ r ih =>
  intro a b h1 h2 h3
  refine ev_succ ?_
  simp only [impl_countWords.f.eq_2]
  by_cases ha : a = 0
  · refine ev_pos (by omega) (ev_now ?_)
    subst ha
    have : b = r + 1 := by omega
    subst this
    rw [cw_zero]; rfl
  · refine ev_neg (by omega) ?_
    rw [wrap_of (x := (a : Int) - 1) (by omega) (by omega), wrap_of (x := (b : Int) - 1) (by omega) (by omega), show (a : Int) - 1 = ((a - 1 : Nat) : Int) by omega]
    refine ev_bind (ih (a - 1) b (by omega) (by omega) (by omega)) ?_
    have hb1 := cw_bound (r := r) (a := a - 1) (b := b) (by omega)
    have hb2 := cw_bound (r := r) (a := a) (b := b - 1) (by omega)
    by_cases hb : b > a
    · rw [show (b : Int) - 1 = ((b - 1 : Nat) : Int) by omega]
      refine ev_pos (by omega) (ev_bind (ih a (b - 1) (by omega) (by omega) (by omega)) (ev_now ?_))
      rw [wrap_of (by omega) (by omega)]
      simp only [cw]
      rw [if_pos (by omega), if_pos hb]; omega
    · refine ev_neg (by omega) (ev_now ?_)
      simp only [cw]
      rw [if_pos (by omega), if_neg hb]; rfl

/-! ### RankOfWord -/
theorem wsplit : ∀ (s : List Int) (d : Int), 0 ≤ d → wGo s d = true → ∃ a b : Nat, s.length = a + b ∧ (b : Int) = a + d := by
 intro s
 induction s with
 | nil => intro d h0 h; simp [wGo] at h; exact ⟨0, 0, rfl, by simp [h]⟩
 | cons c s ih =>
  intro d h0 h
  simp only [wGo] at h
  split at h
  · obtain ⟨a, b, h1, h2⟩ := ih _ (by omega) h
    exact ⟨a + 1, b, by simp; omega, by omega⟩
  · split at h
    · split at h
      · obtain ⟨a, b, h1, h2⟩ := ih _ (by omega) h
        exact ⟨a, b + 1, by simp; omega, by omega⟩
      · cases h
    · cases h
theorem spec_rank_l (w : ByteArray) (hw : w.size ≤ 14) : ∀ (suf pre : List Int) (a b acc : Nat), bytesOf w = pre ++ suf → wGo suf ((b : Int) - a) = true → a ≤ b → suf.length = a + b → acc + 16384 * suf.length ≤ 1000000 → Ev (fun k => spec_l4WordRank.l0 k w (acc : Int) ((b : Int) - a) (pre.length : Int)) ((rankGo suf a b acc : Nat) : Int) := by
 intro suf
 induction suf with
 | nil =>
  intro pre a b acc e hg h1 h2 h3
  have h := size_end e
  refine ev_succ ?_
  simp only [spec_l4WordRank.l0.eq_2]
  exact ev_neg (by omega) (ev_now (by simp [rankGo]))
 | cons c suf ih =>
  intro pre a b acc e hg h1 h2 h3
  have h := size_mid e
  simp only [List.length_cons] at h2 h3
  refine ev_succ ?_
  simp only [spec_l4WordRank.l0.eq_2, bt_mid e]
  rw [wrap_snoc (pre := pre) (c := c) (by omega), wrap_of (x := (b : Int) - a + 1) (by omega) (by omega), wrap_of (x := (b : Int) - a - 1) (by omega) (by omega), wrap_of (x := (w.size : Int) - 1) (by omega) (by omega), wrap_of (x := (w.size : Int) - 1 - (pre.length : Int)) (by omega) (by omega)]
  refine ev_pos (by omega) (ev_pos (by omega) ?_)
  by_cases hI : c = 73
  · subst hI
    rw [wGo_in] at hg
    have ha : 0 < a := by
     rcases Nat.eq_zero_or_pos a with h0 | h0
     · obtain ⟨a', b', e1, e2⟩ := wsplit _ _ (by omega) hg; omega
     · exact h0
    refine ev_pos rfl ?_
    rw [show (b : Int) - a + 1 = (b : Int) - ((a - 1 : Nat) : Int) by omega] at hg ⊢
    refine ev_eq (ih _ (a - 1) b acc (snoc_mid e) hg (by omega) (by omega) (by omega)) ?_
    simp [rankGo]
  · by_cases hO : c = 79
    · subst hO
      rw [wGo_out] at hg
      by_cases hd : (b : Int) - a > 0
      · rw [if_pos hd] at hg
        have hb := cw_bound (r := a + b - 1) (a := a - 1) (b := b) (by omega)
        refine ev_neg hI ?_
        have he := ends_ev (b - a + 1) (a + b - 1) (by omega) (by omega)
        rw [endsT_in a b h1 (by omega)] at he
        rw [show (b : Int) - a + 1 = ((b - a + 1 : Nat) : Int) by omega, show (w.size : Int) - 1 - (pre.length : Int) = ((a + b - 1 : Nat) : Int) by omega]
        refine ev_bind he ?_
        have hb2 : (if a > 0 then cw (a + b - 1) (a - 1) b else 0) ≤ 16384 := by split <;> omega
        rw [wrap_of (by omega) (by omega), show (acc : Int) + ((if a > 0 then cw (a + b - 1) (a - 1) b else 0 : Nat) : Int) = ((acc + (if a > 0 then cw (a + b - 1) (a - 1) b else 0) : Nat) : Int) by omega]
        rw [show (b : Int) - a - 1 = ((b - 1 : Nat) : Int) - a by omega] at hg ⊢
        refine ev_eq (ih _ a (b - 1) _ (snoc_mid e) hg (by omega) (by omega) (by omega)) ?_
        simp [rankGo]
      · rw [if_neg hd] at hg; cases hg
    · simp only [wGo] at hg
      rw [if_neg hI, if_neg hO] at hg; cases hg
theorem spec_rankword_ev (w : ByteArray) (hw : w.size ≤ 140737488351232) : Ev (fun k => spec_RankOfWord.f k w) (rankWR w) := by
 unfold spec_RankOfWord.f rankWR
 have hb := bytes_len w
 by_cases h : isWd (bytesOf w) = true
 · rw [onWd_pos h]
   have h' := (isWd_iff _).1 h
   have hev := wGo_even _ _ h'.2
   rw [hb] at h' hev
   refine ev_bind (spec_any_ev w hw) (ev_pos h (ev_bind (a := ((rankGo (bytesOf w) (w.size / 2) (w.size / 2) 0 : Nat) : Int)) ?_ (ev_now rfl)))
   unfold spec_l4WordRank.f
   have := spec_rank_l w h'.1.2 (bytesOf w) [] (w.size / 2) (w.size / 2) 0 rfl (by rw [Int.sub_self]; exact h'.2) (Nat.le_refl _) (by rw [hb]; omega) (by rw [hb]; omega)
   simpa using this
 · rw [onWd_neg h]
   exact ev_bind (spec_any_ev w hw) (ev_neg h (ev_now rfl))
theorem impl_rank_l (w : ByteArray) (hw : w.size ≤ 14) : ∀ (suf pre : List Int) (a b acc : Nat), bytesOf w = pre ++ suf → wGo suf ((b : Int) - a) = true → a ≤ b → suf.length = a + b → acc + 16384 * suf.length ≤ 1000000 → Ev (fun k => impl_RankOfWord.l0 k w (a : Int) (b : Int) (acc : Int) (w.size : Int) (pre.length : Int)) (((rankGo suf a b acc : Nat) : Int), true) := by
 intro suf
 induction suf with
 | nil =>
  intro pre a b acc e hg h1 h2 h3
  have h := size_end e
  refine ev_succ ?_
  simp only [impl_RankOfWord.l0.eq_2]
  exact ev_neg (by omega) (ev_now (by simp [rankGo]))
 | cons c suf ih =>
  intro pre a b acc e hg h1 h2 h3
  have h := size_mid e
  simp only [List.length_cons] at h2 h3
  refine ev_succ ?_
  simp only [impl_RankOfWord.l0.eq_2, bt_mid e]
  rw [wrap_snoc (pre := pre) (c := c) (by omega), wrap_of (x := (a : Int) - 1) (by omega) (by omega), wrap_of (x := (b : Int) - 1) (by omega) (by omega)]
  refine ev_pos (by omega) (ev_pos (by omega) (ev_pos (by omega) ?_))
  by_cases hI : c = 73
  · subst hI
    rw [wGo_in] at hg
    have ha : 0 < a := by
     rcases Nat.eq_zero_or_pos a with h0 | h0
     · obtain ⟨a', b', e1, e2⟩ := wsplit _ _ (by omega) hg; omega
     · exact h0
    refine ev_pos rfl ?_
    rw [show (b : Int) - a + 1 = (b : Int) - ((a - 1 : Nat) : Int) by omega] at hg
    rw [show (a : Int) - 1 = ((a - 1 : Nat) : Int) by omega]
    refine ev_eq (ih _ (a - 1) b acc (snoc_mid e) hg (by omega) (by omega) (by omega)) ?_
    simp [rankGo]
  · by_cases hO : c = 79
    · subst hO
      rw [wGo_out] at hg
      by_cases hd : (b : Int) - a > 0
      · rw [if_pos hd] at hg
        have hb := cw_bound (r := a + b - 1) (a := a - 1) (b := b) (by omega)
        refine ev_neg hI ?_
        rw [show (b : Int) - a - 1 = ((b - 1 : Nat) : Int) - a by omega] at hg
        rw [show (b : Int) - 1 = ((b - 1 : Nat) : Int) by omega]
        by_cases ha : a > 0
        · rw [show (a : Int) - 1 = ((a - 1 : Nat) : Int) by omega]
          refine ev_pos (by omega) (ev_bind (cw_ev (a + b - 1) (a - 1) b (by omega) (by omega) (by omega)) ?_)
          rw [wrap_of (by omega) (by omega), show (acc : Int) + ((cw (a + b - 1) (a - 1) b : Nat) : Int) = ((acc + cw (a + b - 1) (a - 1) b : Nat) : Int) by omega]
          refine ev_eq (ih _ a (b - 1) _ (snoc_mid e) hg (by omega) (by omega) (by omega)) ?_
          simp [rankGo, ha]
        · refine ev_neg (by omega) ?_
          refine ev_eq (ih _ a (b - 1) _ (snoc_mid e) hg (by omega) (by omega) (by omega)) ?_
          simp [rankGo, ha]
      · rw [if_neg hd] at hg; cases hg
    · simp only [wGo] at hg
      rw [if_neg hI, if_neg hO] at hg; cases hg
theorem impl_rankword_ev (w : ByteArray) (hw : w.size ≤ 140737488351232) : Ev (fun k => impl_RankOfWord.f k w) (rankWR w) := by
 unfold impl_RankOfWord.f rankWR
 have hb := bytes_len w
 by_cases h : isWd (bytesOf w) = true
 · rw [onWd_pos h]
   have h' := (isWd_iff _).1 h
   have hev := wGo_even _ _ h'.2
   rw [hb] at h' hev
   refine ev_bind (isWord_ev w hw) (ev_pos h ?_)
   rw [wrap_of (by omega) (by omega), show (w.size : Int) / 2 = ((w.size / 2 : Nat) : Int) by omega]
   exact impl_rank_l w h'.1.2 (bytesOf w) [] (w.size / 2) (w.size / 2) 0 rfl (by rw [Int.sub_self]; exact h'.2) (Nat.le_refl _) (by rw [hb]; omega) (by rw [hb]; omega)
 · rw [onWd_neg h]
   exact ev_bind (isWord_ev w hw) (ev_neg h (ev_now rfl))

/-! ### WordAt -/
theorem cw_succ (r a b : Nat) : cw (r + 1) a b = (if a > 0 then cw r (a - 1) b else 0) + (if b > a then cw r a (b - 1) else 0) := rfl
theorem spec_wordat_l (n : Nat) (hn : n ≤ 7) : ∀ (r a b k : Nat) (w : List Int), a + b = r → a ≤ b → w.length + r = 2 * n → k < cw r a b → Ev (fun q => spec_WordAt.l0 q (n : Int) (k : Int) (strOfNums w) ((b - a : Nat) : Int)) (strOfNums (w ++ wordAtGo r a b k), true) := by
 intro r
 induction r with
 | zero =>
  intro a b k w h1 h2 h3 hk
  refine ev_succ ?_
  simp only [spec_WordAt.l0.eq_2]
  rw [wrap_of (x := 2 * (n : Int)) (by omega) (by omega), str_size]
  exact ev_neg (by omega) (ev_now (by simp [wordAtGo]))
 | succ r ih =>
  intro a b k w h1 h2 h3 hk
  have hk0 := cw_bound (r := r + 1) (a := a) (b := b) (by omega)
  refine ev_succ ?_
  simp only [spec_WordAt.l0.eq_2]
  rw [wrap_of (x := 2 * (n : Int)) (by omega) (by omega), str_size, wrap_of (x := ((b - a : Nat) : Int) + 1) (by omega) (by omega), wrap_of (x := ((b - a : Nat) : Int) - 1) (by omega) (by omega), wrap_of (x := 2 * (n : Int) - (w.length : Int)) (by omega) (by omega), wrap_of (x := 2 * (n : Int) - (w.length : Int) - 1) (by omega) (by omega)]
  rw [show ((b - a : Nat) : Int) + 1 = ((b - a + 1 : Nat) : Int) by omega, show 2 * (n : Int) - (w.length : Int) - 1 = ((a + b - 1 : Nat) : Int) by omega]
  have he := ends_ev (b - a + 1) (a + b - 1) (by omega) (by omega)
  rw [endsT_in a b h2 (by omega), show a + b - 1 = r by omega] at he
  rw [show a + b - 1 = r by omega]
  refine ev_pos (by omega) (ev_bind he ?_)
  have hkb : k ≤ 16384 := by omega
  rw [cw_succ] at hk
  by_cases hI : k < (if a > 0 then cw r (a - 1) b else 0)
  · have ha : a > 0 := by
     by_cases ha : a > 0
     · exact ha
     · rw [if_neg ha] at hI; omega
    refine ev_pos (by omega) (ev_pos (by omega) ?_)
    rw [str_snocI, show b - a + 1 = b - (a - 1) by omega]
    rw [if_pos ha] at hI
    refine ev_eq (ih (a - 1) b k (w ++ [73]) (by omega) (by omega) (by simp; omega) hI) ?_
    simp [wordAtGo, hI, ha]
  · have hb : b > a := by
     by_cases hb : b > a
     · exact hb
     · rw [if_neg hb] at hk; omega
    rw [if_pos hb] at hk
    refine ev_neg (by omega) (ev_pos (by omega) ?_)
    rw [wrap_of (by omega) (by omega), str_snocO, show ((b - a : Nat) : Int) - 1 = ((b - 1 - a : Nat) : Int) by omega, show (k : Int) - ((if a > 0 then cw r (a - 1) b else 0 : Nat) : Int) = ((k - (if a > 0 then cw r (a - 1) b else 0) : Nat) : Int) by omega]
    refine ev_eq (ih a (b - 1) _ (w ++ [79]) (by omega) (by omega) (by simp; omega) (by omega)) ?_
    simp only [wordAtGo]; rw [if_neg hI]; simp
theorem spec_wordat_no (n k : Int) : Ev (fun j => spec_WordAt.j0 j n k true) ((⟨#[]⟩ : ByteArray), false) := by
 refine ev_succ ?_
 simp only [spec_WordAt.j0.eq_2]
 exact ev_pos trivial (ev_now rfl)
theorem spec_wordat_yes (n k : Int) (h : 1 ≤ n ∧ n ≤ 7 ∧ 0 ≤ k ∧ k < (cw (n.toNat + n.toNat) n.toNat n.toNat : Int)) : Ev (fun j => spec_WordAt.j0 j n k false) (strOfNums (wordAtGo (n.toNat + n.toNat) n.toNat n.toNat k.toNat), true) := by
 refine ev_succ ?_
 simp only [spec_WordAt.j0.eq_2]
 refine ev_neg (by simp) ?_
 rw [← str_nil]
 have := spec_wordat_l n.toNat (by omega) (n.toNat + n.toNat) n.toNat n.toNat k.toNat [] rfl (Nat.le_refl _) (by simp; omega) (by omega)
 rw [show ((n.toNat : Nat) : Int) = n by omega, show ((k.toNat : Nat) : Int) = k by omega, show ((n.toNat - n.toNat : Nat) : Int) = 0 by omega] at this
 simpa using this
theorem spec_wordat_ev (n k : Int) : Ev (fun q => spec_WordAt.f q n k) (wordAtR n k) := by
 unfold spec_WordAt.f wordAtR
 refine ev_bind (in_ev _ _ _) ?_
 by_cases h : 1 ≤ n ∧ n ≤ 7
 · refine ev_pos (by simp [h.1, h.2]) ?_
   rw [wrap_of (x := 2 * n) (by omega) (by omega)]
   have he := ends_ev 0 (2 * n.toNat) (by omega) (by omega)
   rw [show ((2 * n.toNat : Nat) : Int) = 2 * n by omega] at he
   have e0 : endsT 0 (2 * n.toNat) = cw (n.toNat + n.toNat) n.toNat n.toNat := by
    unfold endsT
    rw [if_pos ⟨by omega, by omega⟩]
    congr 1 <;> omega
   rw [e0] at he
   have hb := cw_bound (r := n.toNat + n.toNat) (a := n.toNat) (b := n.toNat) (by omega)
   refine ev_bind he (ev_bind (in_ev _ _ _) ?_)
   rw [wrap_of (by omega) (by omega)]
   by_cases hk' : 0 ≤ k ∧ k < (cw (n.toNat + n.toNat) n.toNat n.toNat : Int)
   · have e1 : (!(decide (0 ≤ k) && decide (k ≤ ((cw (n.toNat + n.toNat) n.toNat n.toNat : Nat) : Int) - 1))) = false := by simp; omega
     rw [e1, if_pos ⟨h.1, h.2, hk'.1, hk'.2⟩]
     exact spec_wordat_yes n k ⟨h.1, h.2, hk'.1, hk'.2⟩
   · have e1 : (!(decide (0 ≤ k) && decide (k ≤ ((cw (n.toNat + n.toNat) n.toNat n.toNat : Nat) : Int) - 1))) = true := by simp; omega
     rw [e1, if_neg (fun h' => hk' h'.2.2)]
     exact spec_wordat_no n k
 · refine ev_neg (by simp; omega) ?_
   rw [if_neg (fun h' => h ⟨h'.1, h'.2.1⟩)]
   exact spec_wordat_no n k
theorem impl_wordat_l : ∀ (r a b k : Nat) (w : List Int), a + b = r → a ≤ b → w.length + r ≤ 14 → k < cw r a b → Ev (fun q => impl_wordAt.l0 q (k : Int) (a : Int) (b : Int) w) (strOfNums (w ++ wordAtGo r a b k)) := by
 intro r
 induction r with
 | zero =>
  intro a b k w h1 h2 h3 hk
  refine ev_succ ?_
  simp only [impl_wordAt.l0.eq_2]
  rw [wrap_of (x := (a : Int) + b) (by omega) (by omega)]
  exact ev_neg (by omega) (ev_now (by simp [wordAtGo]))
 | succ r ih =>
  intro a b k w h1 h2 h3 hk
  have hk0 := cw_bound (r := r + 1) (a := a) (b := b) (by omega)
  refine ev_succ ?_
  simp only [impl_wordAt.l0.eq_2]
  rw [wrap_of (x := (a : Int) + b) (by omega) (by omega), wrap_of (x := (a : Int) - 1) (by omega) (by omega), wrap_of (x := (b : Int) - 1) (by omega) (by omega)]
  refine ev_pos (by omega) ?_
  have hkb : k ≤ 16384 := by omega
  rw [cw_succ] at hk
  by_cases ha : a > 0
  · have hc := cw_bound (r := r) (a := a - 1) (b := b) (by omega)
    rw [if_pos ha] at hk
    rw [show (a : Int) - 1 = ((a - 1 : Nat) : Int) by omega]
    refine ev_pos (by omega) (ev_bind (cw_ev r (a - 1) b (by omega) (by omega) (by omega)) ?_)
    by_cases hI : k < cw r (a - 1) b
    · refine ev_pos (by omega) (ev_pos (by omega) ?_)
      refine ev_eq (ih (a - 1) b k (w ++ [73]) (by omega) (by omega) (by simp; omega) hI) ?_
      simp [wordAtGo, hI, ha]
    · have hb : b > a := by
       by_cases hb : b > a
       · exact hb
       · rw [if_neg hb] at hk; omega
      rw [if_pos hb] at hk
      refine ev_neg (by omega) (ev_pos (by omega) ?_)
      rw [wrap_of (by omega) (by omega), show (b : Int) - 1 = ((b - 1 : Nat) : Int) by omega, show (k : Int) - ((cw r (a - 1) b : Nat) : Int) = ((k - cw r (a - 1) b : Nat) : Int) by omega]
      refine ev_eq (ih a (b - 1) _ (w ++ [79]) (by omega) (by omega) (by simp; omega) (by omega)) ?_
      simp only [wordAtGo]; rw [if_pos ha, if_neg hI]; simp
  · rw [if_neg ha, if_pos (by omega)] at hk
    refine ev_neg (by omega) (ev_neg (by omega) (ev_pos (by omega) ?_))
    rw [wrap_of (x := (k : Int)) (by omega) (by omega), show (b : Int) - 1 = ((b - 1 : Nat) : Int) by omega]
    refine ev_eq (ih a (b - 1) k (w ++ [79]) (by omega) (by omega) (by simp; omega) (by omega)) ?_
    simp [wordAtGo, ha]
theorem impl_wordat_ev (n k : Int) : Ev (fun q => impl_WordAt.f q n k) (wordAtR n k) := by
 unfold impl_WordAt.f wordAtR
 refine ev_bind (isSize_ev _) ?_
 by_cases h : 1 ≤ n ∧ n ≤ 7
 · refine ev_pos (by simp [h.1, h.2]) ?_
   by_cases h0 : k < 0
   · refine ev_pos h0 (ev_now ?_)
     rw [if_neg (fun h' => by omega)]
   refine ev_neg h0 ?_
   have he := cw_ev (n.toNat + n.toNat) n.toNat n.toNat rfl (Nat.le_refl _) (by omega)
   rw [show ((n.toNat : Nat) : Int) = n by omega] at he
   refine ev_bind he ?_
   by_cases h1 : k ≥ ((cw (n.toNat + n.toNat) n.toNat n.toNat : Nat) : Int)
   · refine ev_pos h1 (ev_now ?_)
     rw [if_neg (fun h' => by omega)]
   refine ev_neg h1 ?_
   rw [if_pos ⟨h.1, h.2, by omega, by omega⟩]
   refine ev_bind (a := strOfNums (wordAtGo (n.toNat + n.toNat) n.toNat n.toNat k.toNat)) ?_ (ev_now rfl)
   unfold impl_wordAt.f
   have := impl_wordat_l (n.toNat + n.toNat) n.toNat n.toNat k.toNat [] rfl (Nat.le_refl _) (by simp; omega) (by omega)
   rw [show ((n.toNat : Nat) : Int) = n by omega, show ((k.toNat : Nat) : Int) = k by omega] at this
   simpa using this
 · refine ev_neg (by simp; omega) (ev_now ?_)
   rw [if_neg (fun h' => h ⟨h'.1, h'.2.1⟩)]

/-! ### laws.rInts, laws.rLists -/
theorem rInts_l (a : List Int) (ha : a.length ≤ 1048576) : ∀ (suf pre : List Int), a = pre ++ suf → Ev (fun k => laws_rInts.l0 k a a (pre.length : Int)) true := by
 intro suf
 induction suf with
 | nil =>
  intro pre e
  have h := len_end e
  refine ev_succ ?_
  simp only [laws_rInts.l0.eq_2]
  exact ev_neg (by omega) (ev_now rfl)
 | cons c suf ih =>
  intro pre e
  have h := len_mid e
  refine ev_succ ?_
  simp only [laws_rInts.l0.eq_2]
  rw [wrap_snoc (pre := pre) (c := c) (by omega)]
  exact ev_pos (by omega) (ev_pos (by omega) (ev_pos (by omega) (ev_pos trivial (ih _ (snoc_mid e)))))
theorem rInts_ev (a : List Int) (ha : a.length ≤ 1048576) : Ev (fun k => laws_rInts.f k a a) true := by
 unfold laws_rInts.f
 exact ev_pos rfl (rInts_l a ha a [] rfl)

/-! ### FnSweeps: the loops of the law -/
theorem rSorted_l (l : List Int) (hl : l.length ≤ 1000) : ∀ (suf pre : List Int), l = pre ++ suf → Ev (fun k => laws_rSorted.l0 k l (pre.length : Int)) (decide (suf = iota ((pre.length : Int) + 1) suf.length)) := by
 intro suf
 induction suf with
 | nil =>
  intro pre e
  have h := len_end e
  refine ev_succ ?_
  simp only [laws_rSorted.l0.eq_2]
  exact ev_neg (by omega) (ev_now (by simp [iota]))
 | cons c suf ih =>
  intro pre e
  have h := len_mid e
  refine ev_succ ?_
  simp only [laws_rSorted.l0.eq_2, rd_mid' e]
  rw [wrap_of (x := (pre.length : Int) + 1) (by omega) (by omega)]
  refine ev_pos (by omega) (ev_pos (by omega) ?_)
  by_cases hc : c = (pre.length : Int) + 1
  · have := ih (pre ++ [c]) (snoc_mid e)
    rw [show (((pre ++ [c]).length : Nat) : Int) = (pre.length : Int) + 1 by simp] at this
    refine ev_pos hc (ev_eq this ?_)
    simp [iota, hc]
  · refine ev_neg hc (ev_now ?_)
    simp [iota, hc]
theorem rSorted_ev (l : List Int) (hl : l.length ≤ 1000) : Ev (fun k => laws_rSorted.f k l) (decide (l = iota 1 l.length)) := by
 unfold laws_rSorted.f
 have := rSorted_l l hl l [] rfl
 simpa using this

theorem isword_ev (w : ByteArray) (hw : w.size ≤ 140737488351232) : Ev (fun k => impl_IsWord.f k w) (isWd (bytesOf w)) := by
 unfold impl_IsWord.f
 first
  | exact ev_bind (isWord_ev w hw) (ev_now rfl)
  | exact isWord_ev w hw
/-! ### SortingWord, IsSortable, SweepOrder, SweepWord -/
def sortR (a : List Int) : ByteArray × Bool := if isOrd a = true then toW a (iota 1 a.length) else ((⟨#[]⟩ : ByteArray), false)
theorem spec_sortable_ev {a : List Int} (h1 : isOrd a = true) : Ev (fun k => spec_l4Sortable.f k a) (toW a (iota 1 a.length)) := by
 unfold spec_l4Sortable.f
 exact ev_bind (spec_sorted_ev _ (ord_len h1).2) (ev_bind (spec_to_ev a _ (ord_len h1).2 (by rw [iota_length])) (ev_now rfl))
theorem spec_sw_ev (a : List Int) (ha : a.length ≤ 140737488351232) : Ev (fun k => spec_SortingWord.f k a) (sortR a) := by
 unfold spec_SortingWord.f sortR
 refine ev_bind (spec_order_ev a ha) ?_
 by_cases h1 : isOrd a = true
 · rw [if_pos h1]
   exact ev_pos h1 (ev_bind (spec_sortable_ev h1) (ev_now rfl))
 · rw [if_neg h1]
   exact ev_neg h1 (ev_now rfl)
theorem impl_sw_ev (a : List Int) (ha : a.length ≤ 140737488351232) : Ev (fun k => impl_SortingWord.f k a) (sortR a) := by
 unfold impl_SortingWord.f sortR
 refine ev_bind (impl_order_ev a ha) ?_
 by_cases h1 : isOrd a = true
 · rw [if_pos h1]
   exact ev_pos h1 (ev_bind (sorted_ev _ (ord_len h1).2) (ev_bind (impl_to_ev a _ (ord_len h1).2 (by rw [iota_length])) (ev_now rfl)))
 · rw [if_neg h1]
   exact ev_neg h1 (ev_now rfl)
def okS (l s : List Int) (c : Bool) : Bool := (toL l (iota 1 l.length)).2 == c && c == decide (s = iota 1 s.length) && decide (s.length = l.length) && decide (s.getD (s.length - 1) 0 = (s.length : Int)) && (match btI l l.length 0 with
 | some (a, b, d) => !c && decide (0 ≤ a ∧ a < b ∧ b < d ∧ d < (l.length : Int)) && decide (rd l d < rd l a ∧ rd l a < rd l b)
 | none => c)
def okB (l : List Int) : Bool := okS l (runGo (impl_sweepWord.goG l [] []) l [] []) (srtR (runGo (impl_sweepWord.goG l [] []) l [] []).reverse)
theorem ok1 : (ordsN 1).all okB = true := by decide +kernel
theorem ok2 : (ordsN 2).all okB = true := by decide +kernel
theorem ok3 : (ordsN 3).all okB = true := by decide +kernel
theorem ok4 : (ordsN 4).all okB = true := by decide +kernel
theorem ok5 : (ordsN 5).all okB = true := by decide +kernel
theorem ok6 : (ordsN 6).all okB = true := by decide +kernel
theorem ok7_1 : ((permsN 6 [2, 3, 4, 5, 6, 7]).map (fun s => (1 : Int) :: s)).all okB = true := by decide +kernel
theorem ok7_2 : ((permsN 6 [1, 3, 4, 5, 6, 7]).map (fun s => (2 : Int) :: s)).all okB = true := by decide +kernel
theorem ok7_3 : ((permsN 6 [1, 2, 4, 5, 6, 7]).map (fun s => (3 : Int) :: s)).all okB = true := by decide +kernel
theorem ok7_4 : ((permsN 6 [1, 2, 3, 5, 6, 7]).map (fun s => (4 : Int) :: s)).all okB = true := by decide +kernel
theorem ok7_5 : ((permsN 6 [1, 2, 3, 4, 6, 7]).map (fun s => (5 : Int) :: s)).all okB = true := by decide +kernel
theorem ok7_6 : ((permsN 6 [1, 2, 3, 4, 5, 7]).map (fun s => (6 : Int) :: s)).all okB = true := by decide +kernel
theorem ok7_7 : ((permsN 6 [1, 2, 3, 4, 5, 6]).map (fun s => (7 : Int) :: s)).all okB = true := by decide +kernel
theorem ok7 : (ordsN 7).all okB = true := ord7_all okB ok7_1 ok7_2 ok7_3 ok7_4 ok7_5 ok7_6 ok7_7
def canL (l : List Int) : Bool := srtR (sweepL l).reverse
theorem ok_all {l : List Int} (h : isOrd l = true) : okS l (sweepL l) (canL l) = true := by
 have := ord_all okB ok1 ok2 ok3 ok4 ok5 ok6 ok7 h
 unfold canL sweepL runL
 rw [(swW_ok h).1]
 exact this
theorem ok_to {l : List Int} (h : isOrd l = true) : (toL l (iota 1 l.length)).2 = canL l := by
 have := ok_all h
 unfold okS at this
 simp only [Bool.and_eq_true, beq_iff_eq] at this
 exact this.1.1.1.1
theorem ok_srt {l : List Int} (h : isOrd l = true) : canL l = decide (sweepL l = iota 1 (sweepL l).length) := by
 have := ok_all h
 unfold okS at this
 simp only [Bool.and_eq_true, beq_iff_eq] at this
 exact this.1.1.1.2
theorem ok_len {l : List Int} (h : isOrd l = true) : (sweepL l).length = l.length ∧ (sweepL l).getD ((sweepL l).length - 1) 0 = ((sweepL l).length : Int) := by
 have := ok_all h
 unfold okS at this
 simp only [Bool.and_eq_true, decide_eq_true_eq] at this
 exact ⟨this.1.1.2, this.1.2⟩
theorem ok_bt {l : List Int} (h : isOrd l = true) : (btOut (btI l l.length 0)).2 = !(canL l) ∧ ((btOut (btI l l.length 0)).2 = true → (0 ≤ (btOut (btI l l.length 0)).1.1 ∧ (btOut (btI l l.length 0)).1.1 < (btOut (btI l l.length 0)).1.2.1 ∧ (btOut (btI l l.length 0)).1.2.1 < (btOut (btI l l.length 0)).1.2.2 ∧ (btOut (btI l l.length 0)).1.2.2 < (l.length : Int)) ∧ rd l (btOut (btI l l.length 0)).1.2.2 < rd l (btOut (btI l l.length 0)).1.1 ∧ rd l (btOut (btI l l.length 0)).1.1 < rd l (btOut (btI l l.length 0)).1.2.1) := by
 have := ok_all h
 unfold okS at this
 rw [Bool.and_eq_true] at this
 have := this.2
 cases hb : btI l l.length 0 with
 | none =>
  rw [hb] at this
  rw [show canL l = true from this]
  exact ⟨rfl, fun h => by cases h⟩
 | some q =>
  obtain ⟨a, b, d⟩ := q
  rw [hb] at this
  simp only [Bool.and_eq_true, decide_eq_true_eq, Bool.not_eq_true'] at this
  rw [this.1.1]
  exact ⟨rfl, fun _ => ⟨this.1.2, this.2⟩⟩
def isR (a : List Int) : Bool × Bool := onOrd a false (canL a)
theorem spec_is_ev (a : List Int) (ha : a.length ≤ 140737488351232) : Ev (fun k => spec_IsSortable.f k a) (isR a) := by
 unfold spec_IsSortable.f isR
 by_cases h1 : isOrd a = true
 · rw [onOrd_pos h1]
   exact ev_bind (spec_order_ev a ha) (ev_pos h1 (ev_bind (spec_sortable_ev h1) (ev_now (by rw [← ok_to h1]; rfl))))
 · rw [onOrd_neg h1]; exact ev_bind (spec_order_ev a ha) (ev_neg h1 (ev_now rfl))
theorem impl_is_ev (a : List Int) (ha : a.length ≤ 140737488351232) : Ev (fun k => impl_IsSortable.f k a) (isR a) := by
 unfold impl_IsSortable.f isR
 by_cases h1 : isOrd a = true
 · rw [onOrd_pos h1]
   refine ev_bind (impl_order_ev a ha) (ev_pos h1 (ev_bind (a := canL a) ?_ (ev_now rfl)))
   unfold impl_isSortable.f
   exact ev_bind (impl_sweep_ev a h1) (ev_bind (isSorted_ev _ (Nat.le_trans (sweepL_length h1) (by decide))) (ev_now rfl))
 · rw [onOrd_neg h1]; exact ev_bind (impl_order_ev a ha) (ev_neg h1 (ev_now rfl))
def soR (a : List Int) : List Int × Bool := onOrd a [] (sweepL a)
theorem spec_so_ev (a : List Int) (ha : a.length ≤ 140737488351232) : Ev (fun k => spec_SweepOrder.f k a) (soR a) := by
 unfold spec_SweepOrder.f soR
 by_cases h1 : isOrd a = true
 · rw [onOrd_pos h1]; exact ev_bind (spec_order_ev a ha) (ev_pos h1 (ev_bind (spec_sweep_ev a h1) (ev_now rfl)))
 · rw [onOrd_neg h1]; exact ev_bind (spec_order_ev a ha) (ev_neg h1 (ev_now rfl))
theorem impl_so_ev (a : List Int) (ha : a.length ≤ 140737488351232) : Ev (fun k => impl_SweepOrder.f k a) (soR a) := by
 unfold impl_SweepOrder.f soR
 by_cases h1 : isOrd a = true
 · rw [onOrd_pos h1]; exact ev_bind (impl_order_ev a ha) (ev_pos h1 (ev_bind (impl_sweep_ev a h1) (ev_now rfl)))
 · rw [onOrd_neg h1]; exact ev_bind (impl_order_ev a ha) (ev_neg h1 (ev_now rfl))
def swR (a : List Int) : ByteArray × Bool := if isOrd a = true then (swW a, true) else ((⟨#[]⟩ : ByteArray), false)
theorem spec_swr_ev (a : List Int) (ha : a.length ≤ 140737488351232) : Ev (fun k => spec_SweepWord.f k a) (swR a) := by
 unfold spec_SweepWord.f swR
 refine ev_bind (spec_order_ev a ha) ?_
 by_cases h1 : isOrd a = true
 · rw [if_pos h1]; exact ev_pos h1 (ev_bind (spec_sweepword_ev a h1) (ev_now rfl))
 · rw [if_neg h1]; exact ev_neg h1 (ev_now rfl)
theorem impl_swr_ev (a : List Int) (ha : a.length ≤ 140737488351232) : Ev (fun k => impl_SweepWord.f k a) (swR a) := by
 unfold impl_SweepWord.f
 refine ev_bind (impl_order_ev a ha) ?_
 by_cases h1 : isOrd a = true
 · exact ev_pos h1 (ev_bind (impl_sweepword_ev a h1) (ev_now (by unfold swR; rw [if_pos h1]; rfl)))
 · exact ev_neg h1 (ev_now (by unfold swR; rw [if_neg h1]))
/-! ### over all words -/
def okW (n : Nat) : Bool := (wordsC (n + n) n n).all fun w => isOrd (ordWd w) && decide (toL (ordWd w) (iota 1 n) = (w, true)) && decide ((ordWd w).length = n) && decide (rankGo w n n 0 < cw (n + n) n n) && decide (wordAtGo (n + n) n n (rankGo w n n 0) = w)
theorem okw1 : okW 1 = true := by decide +kernel
theorem okw2 : okW 2 = true := by decide +kernel
theorem okw3 : okW 3 = true := by decide +kernel
theorem okw4 : okW 4 = true := by decide +kernel
theorem okw5 : okW 5 = true := by decide +kernel
theorem okw6 : okW 6 = true := by decide +kernel
theorem okw7 : okW 7 = true := by decide +kernel
def okR (n : Nat) : Bool := (List.range (cw (n + n) n n)).all fun k => isWd (wordAtGo (n + n) n n k) && decide ((wordAtGo (n + n) n n k).length = n + n) && decide (rankGo (wordAtGo (n + n) n n k) n n 0 = k) && (wordAtGo (n + n) n n k).all (fun c => c == 73 || c == 79)
theorem okr1 : okR 1 = true := by decide +kernel
theorem okr2 : okR 2 = true := by decide +kernel
theorem okr3 : okR 3 = true := by decide +kernel
theorem okr4 : okR 4 = true := by decide +kernel
theorem okr5 : okR 5 = true := by decide +kernel
theorem okr6 : okR 6 = true := by decide +kernel
theorem okr7 : okR 7 = true := by decide +kernel
theorem okW_all {n : Nat} (h1 : 1 ≤ n) (h7 : n ≤ 7) : okW n = true ∧ okR n = true := by
 obtain rfl | rfl | rfl | rfl | rfl | rfl | rfl : n = 1 ∨ n = 2 ∨ n = 3 ∨ n = 4 ∨ n = 5 ∨ n = 6 ∨ n = 7 := by omega
 · exact ⟨okw1, okr1⟩
 · exact ⟨okw2, okr2⟩
 · exact ⟨okw3, okr3⟩
 · exact ⟨okw4, okr4⟩
 · exact ⟨okw5, okr5⟩
 · exact ⟨okw6, okr6⟩
 · exact ⟨okw7, okr7⟩
theorem word_ok2 {x : ByteArray} (h : isWd (bytesOf x) = true) : sortR (ordWd (bytesOf x)) = (x, true) ∧ wordAtR (((x.size / 2 : Nat)) : Int) (rankWR x).1 = (x, true) := by
 obtain ⟨n, h1, h7, hlen, hm⟩ := isWd_mem h
 have hc := (okW_all h1 h7).1
 unfold okW at hc
 have := List.all_eq_true.1 hc _ hm
 simp only [Bool.and_eq_true, decide_eq_true_eq] at this
 obtain ⟨⟨⟨⟨p1, p2⟩, p3⟩, p4⟩, p5⟩ := this
 have hsz : x.size / 2 = n := by rw [bytes_len] at hlen; omega
 constructor
 · unfold sortR
   rw [if_pos p1]
   unfold toW
   rw [p3, p2, str_bytes]
 · unfold rankWR
   rw [onWd_pos h, hsz]
   unfold wordAtR
   rw [if_pos ⟨by omega, by omega, by omega, by simpa using p4⟩]
   simp only [Int.toNat_natCast]
   rw [p5, str_bytes]
theorem at_ok2 {n k : Int} (h : (wordAtR n k).2 = true) : rankWR (wordAtR n k).1 = (k, true) ∧ (wordAtR n k).1.size ≤ 14 := by
 by_cases hn : 1 ≤ n ∧ n ≤ 7 ∧ 0 ≤ k ∧ k < (cw (n.toNat + n.toNat) n.toNat n.toNat : Int)
 · have e : wordAtR n k = (strOfNums (wordAtGo (n.toNat + n.toNat) n.toNat n.toNat k.toNat), true) := if_pos hn
   rw [e]
   have hc := (okW_all (n := n.toNat) (by omega) (by omega)).2
   unfold okR at hc
   have := List.all_eq_true.1 hc k.toNat (List.mem_range.2 (by omega))
   simp only [Bool.and_eq_true, decide_eq_true_eq] at this
   obtain ⟨⟨⟨p1, p2⟩, p3⟩, p4⟩ := this
   have hb : bytesOf (strOfNums (wordAtGo (n.toNat + n.toNat) n.toNat n.toNat k.toNat)) = wordAtGo (n.toNat + n.toNat) n.toNat n.toNat k.toNat := bytes_str (fun c hc => by
    have := List.all_eq_true.1 p4 c hc
    simp only [Bool.or_eq_true, beq_iff_eq] at this
    omega)
   have hs : (strOfNums (wordAtGo (n.toNat + n.toNat) n.toNat n.toNat k.toNat)).size = n.toNat + n.toNat := by rw [str_size]; exact p2
   refine ⟨?_, by simp only; omega⟩
   unfold rankWR
   simp only
   rw [onWd_pos (by rw [hb]; exact p1), hb, hs, show (n.toNat + n.toNat) / 2 = n.toNat by omega, p3]
   congr 1
   omega
 · have e : wordAtR n k = ((⟨#[]⟩ : ByteArray), false) := if_neg hn
   rw [e] at h; cases h
/-! ### what the law draws -/
theorem iota_ord (n : Nat) (h1 : 1 ≤ n) (h7 : n ≤ 7) : isOrd (iota 1 n) = true := ord_of_perm h1 h7 (List.Perm.refl _)
theorem ordWd_ord {w : ByteArray} {n : Nat} (h1 : 1 ≤ n) (h7 : n ≤ 7) (hs : w.size = 2 * n) (hg : wGo (bytesOf w) 0 = true) : isOrd (runL (iota 1 n) (bytesOf w)) = true ∧ (inv (runL (iota 1 n) (bytesOf w))).length ≤ 14 := by
 have hwd : isWd (bytesOf w) = true := (isWd_iff _).2 ⟨by rw [bytes_len]; omega, hg⟩
 refine ⟨?_, ?_⟩
 · have hp := run_perm (bytesOf w) (iota 1 n) [] (by simpa using hg) (by simp [bytes_len, iota_length]; omega)
   rw [List.append_nil, ← runL_F] at hp
   exact ord_of_perm h1 h7 hp
 · rw [inv_length]
   have := runGo_length (bytesOf w) (iota 1 n) [] []
   rw [bytes_len] at this
   simp [runL] at this ⊢; omega
theorem drawSW_ok {l : List Int} (hl : byteL l) : ∃ o, Ev (fun k => spec_DrawSortingWord.f k l) o ∧ o.length ≤ 14 := by
 obtain ⟨v, hv, hv8, hv0, hv1⟩ := order_ok hl 0 0 (by omega) (by omega)
 obtain ⟨u, hu, hu1, hu2, hu3⟩ := word_ok hl v.1.length (by omega) v.2.1 v.2.2 hv0 (by omega)
 have hwd := spec_word_ev u.1 (v.1.length : Int) (by omega) (by omega) (by omega)
 have J0 : Ev (fun k => spec_DrawSortingWord.j0 k v.1 u.1 false) v.1 := by
  refine ev_succ ?_
  simp only [spec_DrawSortingWord.j0.eq_2]
  exact ev_neg (by simp) (ev_now rfl)
 by_cases h : isOrd v.1 = true
 · by_cases h2 : (decide ((u.1.size : Int) = 2 * (v.1.length : Int)) && wGo (bytesOf u.1) 0) = true
   · obtain ⟨b, s3, s4, hb, hb1, hb2⟩ := one_any hl u.2.1 u.2.2 3 hu2 (by omega) (by omega) (by omega)
     cases b with
     | true =>
      refine ⟨v.1, ?_, by omega⟩
      unfold spec_DrawSortingWord.f
      refine ev_bind hv (ev_bind hu (ev_bind (spec_order_ev v.1 (by omega)) (ev_pos h (ev_bind hwd (ev_pos h2 ?_)))))
      rw [hb]
      exact ev_let J0
     | false =>
      simp only [Bool.and_eq_true, decide_eq_true_eq] at h2
      have h7 := ord_len h
      obtain ⟨q1, q2⟩ := ordWd_ord h7.1 h7.2 (w := u.1) (by omega) h2.2
      have hr := spec_run_ev (iota 1 v.1.length) u.1 (by rw [iota_length]; exact h7.2) h2.2 (by rw [iota_length]; omega)
      refine ⟨inv (runL (iota 1 v.1.length) (bytesOf u.1)), ?_, q2⟩
      unfold spec_DrawSortingWord.f
      refine ev_bind hv (ev_bind hu (ev_bind (spec_order_ev v.1 (by omega)) (ev_pos h (ev_bind hwd (ev_pos (by simp only [Bool.and_eq_true, decide_eq_true_eq]; exact h2) ?_)))))
      rw [hb]
      refine ev_let (ev_succ ?_)
      simp only [spec_DrawSortingWord.j0.eq_2]
      exact ev_pos (by trivial) (ev_bind (spec_sorted_ev _ h7.2) (ev_bind hr (ev_bind (spec_inv_ev _ q1) (ev_now rfl))))
   · refine ⟨v.1, ?_, by omega⟩
     unfold spec_DrawSortingWord.f
     exact ev_bind hv (ev_bind hu (ev_bind (spec_order_ev v.1 (by omega)) (ev_pos h (ev_bind hwd (ev_neg h2 J0)))))
 · refine ⟨v.1, ?_, by omega⟩
   unfold spec_DrawSortingWord.f
   exact ev_bind hv (ev_bind hu (ev_bind (spec_order_ev v.1 (by omega)) (ev_neg h J0)))
theorem drawOW_ok {l : List Int} (hl : byteL l) : ∃ x, Ev (fun k => spec_DrawOrderOfWord.f k l) x ∧ x.size ≤ 100 := by
 obtain ⟨y, s3, s4, hy, hm, hs, hs'⟩ := among_ok hl 0 0 [3, 4, 2, 5, 1, 7, 0, 8, 6] (by omega) (by omega) (by decide) (by decide)
 have hr : 0 ≤ y ∧ y ≤ 8 := by
  simp only [List.mem_cons, List.not_mem_nil, or_false] at hm
  omega
 obtain ⟨n, rfl⟩ : ∃ n : Nat, y = (n : Int) := ⟨y.toNat, by omega⟩
 obtain ⟨u, hu, hu1, _⟩ := word_ok hl n (by omega) s3 s4 (by omega) (by omega)
 refine ⟨u.1, ?_, by omega⟩
 unfold spec_DrawOrderOfWord.f spec_DrawIsWord.f
 rw [hy]
 exact ev_bind (ev_let (ev_bind hu (ev_now rfl))) (ev_now rfl)
theorem drawWA_ok {l : List Int} (hl : byteL l) : ∃ n k, Ev (fun i => spec_DrawWordAt.f i l) (n, k) := by
 obtain ⟨y, s3, s4, hy, hm, hs, hs'⟩ := among_ok hl 0 0 [3, 4, 5, 2, 7, 6, 1, 0, 8] (by omega) (by omega) (by decide) (by decide)
 have hr : 0 ≤ y ∧ y ≤ 8 := by
  simp only [List.mem_cons, List.not_mem_nil, or_false] at hm
  omega
 obtain ⟨m, hm1, hm2, hm7⟩ : ∃ m : Nat, ((spec_l1Least.f y 7).bind fun t => spec_l1Most.f 1 t) = some (m : Int) ∧ 1 ≤ m ∧ m ≤ 7 := by
  have : y = 0 ∨ y = 1 ∨ y = 2 ∨ y = 3 ∨ y = 4 ∨ y = 5 ∨ y = 6 ∨ y = 7 ∨ y = 8 := by omega
  rcases this with rfl | rfl | rfl | rfl | rfl | rfl | rfl | rfl | rfl
  · exact ⟨1, rfl, by omega, by omega⟩
  · exact ⟨1, rfl, by omega, by omega⟩
  · exact ⟨2, rfl, by omega, by omega⟩
  · exact ⟨3, rfl, by omega, by omega⟩
  · exact ⟨4, rfl, by omega, by omega⟩
  · exact ⟨5, rfl, by omega, by omega⟩
  · exact ⟨6, rfl, by omega, by omega⟩
  · exact ⟨7, rfl, by omega, by omega⟩
  · exact ⟨7, rfl, by omega, by omega⟩
 obtain ⟨t, ht1, ht2⟩ := Option.bind_eq_some_iff.1 hm1
 have he := ends_ev 0 (2 * m) (by omega) (by omega)
 have e0 : endsT 0 (2 * m) = cw (m + m) m m := by
  unfold endsT
  rw [if_pos ⟨by omega, by omega⟩]
  congr 1 <;> omega
 rw [e0] at he
 have hb := cw_bound (r := m + m) (a := m) (b := m) (by omega)
 have hp1 : 1 ≤ cw (m + m) m m := by
  obtain rfl | rfl | rfl | rfl | rfl | rfl | rfl : m = 1 ∨ m = 2 ∨ m = 3 ∨ m = 4 ∨ m = 5 ∨ m = 6 ∨ m = 7 := by omega
  all_goals decide +kernel
 obtain ⟨p, p1, p2, hp, _, _, hp2, hp3⟩ := pick_all hl s3 s4 ((cw (m + m) m m : Nat) : Int) (by omega) (by omega) (by omega) (by omega)
 obtain ⟨q, q1, q2, hq, _, _, hq2, hq3⟩ := pick_all hl p1 p2 24 (by omega) (by omega) (by omega) (by omega)
 obtain ⟨r, r1, r2, hr, _, _, hr2, hr3⟩ := pick_all hl q1 q2 24 (by omega) (by omega) (by omega) (by omega)
 refine ⟨y, wrap64 ((wrap64 (p - (wrap64 (Int.tdiv q 23)))) + (wrap64 (Int.tdiv r 23))), ?_⟩
 unfold spec_DrawWordAt.f
 rw [hy]
 refine ev_let ?_
 rw [ht1]
 refine ev_let ?_
 rw [ht2]
 have hw : wrap64 (2 * (m : Int)) = ((2 * m : Nat) : Int) := by rw [wrap_of (by omega) (by omega)]; omega
 refine ev_let ?_
 rw [hw]
 refine ev_bind he ?_
 rw [hp]
 refine ev_let ?_
 rw [hq]
 refine ev_let ?_
 rw [hr]
 exact ev_let (ev_now rfl)
/-! ### CountOneStack -/
theorem few : ∀ a : Fin 7, ∃ r, spec_CountOneStack.f 400 ((a.val + 1 : Nat) : Int) = some r ∧ impl_CountOneStack.f 400 ((a.val + 1 : Nat) : Int) = some r := by
 intro a
 have h : (match spec_CountOneStack.f 400 ((a.val + 1 : Nat) : Int), impl_CountOneStack.f 400 ((a.val + 1 : Nat) : Int) with
  | some r, some s => decide (r = s)
  | _, _ => false) = true := by
  have hall : ∀ a : Fin 7, (match spec_CountOneStack.f 400 ((a.val + 1 : Nat) : Int), impl_CountOneStack.f 400 ((a.val + 1 : Nat) : Int) with
   | some r, some s => decide (r = s)
   | _, _ => false) = true := by decide +kernel
  exact hall a
 cases h1 : spec_CountOneStack.f 400 ((a.val + 1 : Nat) : Int) with
 | none => rw [h1] at h; cases h
 | some r =>
  cases h2 : impl_CountOneStack.f 400 ((a.val + 1 : Nat) : Int) with
  | none => rw [h1, h2] at h; cases h
  | some s =>
   rw [h1, h2] at h
   rw [of_decide_eq_true h]
   exact ⟨s, rfl, rfl⟩
theorem count_ev (a : Int) : ∃ m b, Ev (fun k => impl_CountOneStack.f k a) (m, b) ∧ Ev (fun k => spec_CountOneStack.f k a) (m, b) := by
 by_cases hr : 1 ≤ a ∧ a ≤ 7
 · obtain ⟨r, h1, h2⟩ := few ⟨(a - 1).toNat, by omega⟩
   rw [show (((a - 1).toNat + 1 : Nat) : Int) = a by omega] at h1 h2
   exact ⟨r.1, r.2, Ev.of (fun k => impl_CountOneStack.mono _ k) h2, Ev.of (fun k => spec_CountOneStack.mono _ k) h1⟩
 · refine ⟨0, false, ?_, ?_⟩
   · unfold impl_CountOneStack.f
     refine ev_bind (isSize_ev a) (ev_neg (by simp; omega) (ev_now rfl))
   · unfold spec_CountOneStack.f
     refine ev_bind (in_ev a 1 7) (ev_neg (by simp; omega) (ev_now rfl))
theorem FnOneStack : laws_FnOneStack.Pure := by
 intro l hm ha hw
 by_cases hbig : (l.length : Int) > 65536
 · exact .inl (by unfold laws_rBig.f; rw [decide_eq_true hbig])
 refine .inr ⟨by unfold laws_rBig.f; rw [decide_eq_false hbig], ?_⟩
 have hl : byteL l := ⟨by omega, fun x hx => by have := hw x hx; simp [Lit.wf] at this; exact ⟨this.1, this.2⟩⟩
 obtain ⟨o, ho, hol⟩ := drawSW_ok hl
 obtain ⟨x, hx, hxl⟩ := drawOW_ok hl
 obtain ⟨n, k, hnk⟩ := drawWA_ok hl
 obtain ⟨m, s3, s4, hn, _⟩ := pick_any hl 0 0 9 (by omega) (by omega) (by omega) (by omega)
 have hdn : spec_DrawCountOneStack.f l = some m := by unfold spec_DrawCountOneStack.f spec_DrawWordsOf.f; rw [hn]; rfl
 obtain ⟨many, eight, hc1, hc2⟩ := count_ev m
 have a1 := impl_sw_ev o (by omega)
 have a2 := spec_sw_ev o (by omega)
 have b1 := impl_is_ev o (by omega)
 have b2 := spec_is_ev o (by omega)
 have c1 := impl_so_ev o (by omega)
 have c2 := spec_so_ev o (by omega)
 have d1 := impl_swr_ev o (by omega)
 have d2 := spec_swr_ev o (by omega)
 have e1 := bt_impl_ev o (by omega)
 have e2 := bt_spec_ev o (by omega) (by omega)
 have f1 := impl_orderofword_ev x (by omega)
 have f2 := spec_orderofword_ev x (by omega)
 have g1 := impl_rankword_ev x (by omega)
 have g2 := spec_rankword_ev x (by omega)
 have t1 := impl_wordat_ev n k
 have t2 := spec_wordat_ev n k
 have qa : sortR o = ((sortR o).1, (isOrd o && (isR o).1)) := by
  by_cases h : isOrd o = true
  · have e : sortR o = toW o (iota 1 o.length) := if_pos h
    rw [e, h]
    unfold isR; rw [onOrd_pos h]
    show _ = (_, canL o)
    rw [← ok_to h]; rfl
  · have e : sortR o = ((⟨#[]⟩ : ByteArray), false) := if_neg h
    rw [e, Bool.eq_false_iff.2 h]; rfl
 have E : ∀ (α : Type) (z r : α), onOrd o z r = ((onOrd o z r).1, isOrd o) := by
  intro α z r
  by_cases h : isOrd o = true
  · rw [onOrd_pos h, h]
  · rw [onOrd_neg h, Bool.eq_false_iff.2 h]
 have qb : isR o = ((isR o).1, isOrd o) := E _ _ _
 have qc : soR o = ((soR o).1, isOrd o) := E _ _ _
 have qd : swR o = ((swR o).1, isOrd o) := by
  by_cases h : isOrd o = true
  · unfold swR; rw [if_pos h, h]
  · unfold swR; rw [if_neg h, Bool.eq_false_iff.2 h]
 have qe : btR o = (((btR o).1.1, (btR o).1.2.1, (btR o).1.2.2), (isOrd o && !(isR o).1)) := by
  by_cases h : isOrd o = true
  · have e : btR o = btOut (btI o o.length 0) := if_pos h
    rw [e, h]
    unfold isR; rw [onOrd_pos h]
    show _ = (_, !(canL o))
    rw [← (ok_bt h).1]
  · have e : btR o = ((0, 0, 0), false) := if_neg h
    rw [e, Bool.eq_false_iff.2 h]; rfl
 have qf : ordWdR x = ((ordWdR x).1, isWd (bytesOf x)) := by
  by_cases h : isWd (bytesOf x) = true
  · unfold ordWdR; rw [onWd_pos h, h]
  · unfold ordWdR; rw [onWd_neg h, Bool.eq_false_iff.2 h]
 have qg : rankWR x = ((rankWR x).1, isWd (bytesOf x)) := by
  by_cases h : isWd (bytesOf x) = true
  · unfold rankWR; rw [onWd_pos h, h]
  · unfold rankWR; rw [onWd_neg h, Bool.eq_false_iff.2 h]
 have hfl := ordWdR_length x
 rw [qa] at a1 a2
 rw [qb] at b1 b2
 rw [qc] at c1 c2
 rw [qd] at d1 d2
 rw [qe] at e1 e2
 rw [qf] at f1 f2
 rw [qg] at g1 g2
 have hsl : (soR o).1.length ≤ 1048576 := by
  unfold soR onOrd
  split
  · rename_i h; exact Nat.le_trans (sweepL_length h) (by decide)
  · simp
 refine ⟨o, (soR o).1, (ordWdR x).1, (sortR o).1, (swR o).1, x, (wordAtR n k).1, (btR o).1.1, (btR o).1.2.1, (btR o).1.2.2, (rankWR x).1, n, k, m, many, isOrd o, (isR o).1, isWd (bytesOf x), (wordAtR n k).2, eight, ?_⟩
 refine ⟨?e1, ho, a1, a2, b1, b2, c1, c2, rInts_ev _ hsl, d1, d2, e1, e2, hx, f1, f2, isword_ev x (by omega), rInts_ev _ (by omega), g1, g2, hnk, t1, t2, hdn, hc1, hc2, ?hone, ?hbad, ?hfive, ?hseven⟩
 case e1 => unfold laws_rBig.f; rw [decide_eq_false hbig]
 case hone =>
  intro h
  have e1 : (soR o).1 = sweepL o := by unfold soR; rw [onOrd_pos h]
  have e2 : (swR o).1 = swW o := by unfold swR; rw [if_pos h]
  have e3 : (isR o).1 = canL o := by unfold isR; rw [onOrd_pos h]
  rw [e1, e2, e3]
  obtain ⟨w1, w2, w3⟩ := swW_ok h
  have h7 := ord_len h
  have hlen := ok_len h
  have hr := impl_runword_ev o (swW o) (by omega) (by omega)
  have hq : runR o (swW o) = (sweepL o, true) := if_pos ⟨h, (isWd_iff _).2 ⟨by rw [bytes_len]; omega, w2⟩, w3⟩
  rw [hq] at hr
  refine ⟨hr, rInts_ev _ (by omega), ?_, by omega, by omega, hlen.2⟩
  rw [ok_srt h]
  exact rSorted_ev _ (by omega)
 case hbad =>
  intro h hc
  have e3 : (isR o).1 = canL o := by unfold isR; rw [onOrd_pos h]
  have e : btR o = btOut (btI o o.length 0) := if_pos h
  rw [e3] at hc
  have hk := ok_bt h
  rw [e]
  exact hk.2 (by rw [hk.1, hc]; rfl)
 case hfive =>
  intro h
  have e1 : (ordWdR x).1 = ordWd (bytesOf x) := by unfold ordWdR; rw [onWd_pos h]
  obtain ⟨p1, p2⟩ := word_ok2 h
  have s1 := impl_sw_ev (ordWd (bytesOf x)) (by rw [e1] at hfl; omega)
  have s2 := impl_wordat_ev ((x.size / 2 : Nat) : Int) (rankWR x).1
  rw [p1] at s1
  rw [p2] at s2
  rw [e1, wrap_of (by omega) (by omega), show (x.size : Int) / 2 = ((x.size / 2 : Nat) : Int) by omega]
  exact ⟨s1, s2⟩
 case hseven =>
  intro h
  obtain ⟨p1, p2⟩ := at_ok2 h
  have := impl_rankword_ev (wordAtR n k).1 (by omega)
  rw [p1] at this
  exact this
end Go.Proofs.Ytlkddcabjcejdaa.Pure
