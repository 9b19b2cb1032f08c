/- The pure statement of FnStackWords. No condition. -/
import Derived.Test.YtlkddcabjcejdaaMFnStackWordsx14
import Derived.Test.YtlkddcabjcejdaaBase
import Derived.Test.YtlkddcabjcejdaaBaseP
import Derived.Test.YtlkddcabjcejdaaBaseS
import Derived.Test.YtlkddcabjcejdaaBaseW
import Derived.Test.YtlkddcabjcejdaaBaseR
import Derived.Test.YtlkddcabjcejdaaBaseT
import Derived.Test.YtlkddcabjcejdaaBaseO
import Derived.Test.YtlkddcabjcejdaaBaseA
import Derived.Test.YtlkddcabjcejdaaBaseG
import Derived.Test.YtlkddcabjcejdaaBaseF
import Derived.Test.YtlkddcabjcejdaaBaseD
import Derived.Test.YtlkddcabjcejdaaBaseY
import Derived.Test.YtlkddcabjcejdaaBaseZ
namespace Go.Proofs.Ytlkddcabjcejdaa.Pure
open Go Go.RowKit Go.Proofs.Ytlkddcabjcejdaa.MFnStackWords Go.Proofs.YtlkddcabjcejdaaW.PrintWords Go.Proofs.Ytlkddcabjcejdaa.Base
set_option linter.unusedVariables false
set_option linter.unusedSimpArgs false
/-! ### the drawing functions -/
theorem u64_eq (n : Int) : IntKind.u64.wrap n = n % 18446744073709551616 := rfl
theorem and_ok (Y : Int) : 0 ≤ wrap64 (Go.bits .and .u64 (IntKind.u64.wrap Y / 1099511627776) 255) ∧ wrap64 (Go.bits .and .u64 (IntKind.u64.wrap Y / 1099511627776) 255) ≤ 255 := by
 rw [u64_eq]
 obtain ⟨m, hm⟩ : ∃ m : Nat, (Y % 18446744073709551616) / 1099511627776 = (m : Int) := ⟨((Y % 18446744073709551616) / 1099511627776).toNat, by omega⟩
 have hlt : m < 18446744073709551616 := by omega
 rw [hm, show (255 : Int) = ((255 : Nat) : Int) from rfl, Go.bits_and_u64_nat m 255 hlt (by omega)]
 have h2 : m &&& 255 ≤ 255 := Nat.and_le_right
 rw [wrap_of (by omega) (by omega)]
 omega
def byteL (l : List Int) : Prop := l.length ≤ 65536 ∧ ∀ x ∈ l, 0 ≤ x ∧ x ≤ 255
theorem rd_byte {l : List Int} (hl : byteL l) (i : Int) (h0 : 0 ≤ i) (h1 : i < (l.length : Int)) : 0 ≤ rd l i ∧ rd l i ≤ 255 := by
 have hi : i.toNat < l.length := by omega
 have e : rd l i = l[i.toNat] := by simp [rd, List.getD_eq_getElem?_getD, List.getElem?_eq_getElem hi]
 rw [e]
 exact hl.2 _ (List.getElem_mem hi)
theorem next_ok {l : List Int} (hl : byteL l) (s1 s2 : Int) (h0 : 0 ≤ s1) (h1 : s1 ≤ 1000000) : ∃ b s2', spec_l1Cur_next.f l s1 s2 = some (b, s1 + 1, s2') ∧ 0 ≤ b ∧ b ≤ 255 := by
 unfold spec_l1Cur_next.f
 rw [wrap_of (x := s1 + 1) (by omega) (by omega)]
 by_cases h : s1 < (l.length : Int)
 · have hr := rd_byte hl s1 h0 h
   rw [if_pos h, if_pos h0]
   by_cases h2 : s1 + 1 ≤ (l.length : Int)
   · rw [if_pos h2]
     exact ⟨_, _, rfl, by rw [wrap_of (by omega) (by omega)]; exact hr.1, by rw [wrap_of (by omega) (by omega)]; exact hr.2⟩
   · rw [if_neg h2]
     exact ⟨_, _, rfl, (and_ok _).1, (and_ok _).2⟩
 · rw [if_neg h]
   by_cases h2 : s1 + 1 ≤ (l.length : Int)
   · rw [if_pos h2]
     exact ⟨_, _, rfl, by omega, by omega⟩
   · rw [if_neg h2]
     exact ⟨_, _, rfl, (and_ok _).1, (and_ok _).2⟩
theorem pick_ok {l : List Int} (hl : byteL l) (s1 s2 n : Int) (h0 : 0 ≤ s1) (h1 : s1 ≤ 1000000) (hn : 2 ≤ n) (hn2 : n ≤ 200) : ∃ b s2', spec_l1Cur_pick.f l s1 s2 n = some (b, s1 + 1, s2') ∧ 0 ≤ b ∧ b < n := by
 obtain ⟨b, s2', hb, hb0, hb1⟩ := next_ok hl s1 s2 h0 h1
 unfold spec_l1Cur_pick.f
 rw [if_neg (by omega), hb]
 simp only [Option.bind_some]
 rw [if_neg (by omega), if_neg (by omega)]
 refine ⟨_, _, rfl, ?_, ?_⟩
 · rw [Int.tmod_eq_emod_of_nonneg hb0]; exact Int.emod_nonneg _ (by omega)
 · rw [Int.tmod_eq_emod_of_nonneg hb0]; exact Int.emod_lt_of_pos _ (by omega)

/-! ### the drawing functions that draw orders -/
theorem pick_any {l : List Int} (hl : byteL l) (s1 s2 n : Int) (h0 : 0 ≤ s1) (h1 : s1 ≤ 1000000) (hn : 1 ≤ n) (hn2 : n ≤ 200) : ∃ b s1' s2', spec_l1Cur_pick.f l s1 s2 n = some (b, s1', s2') ∧ 0 ≤ b ∧ b < n ∧ s1 ≤ s1' ∧ s1' ≤ s1 + 1 := by
 by_cases h : n = 1
 · subst h
   exact ⟨0, s1, s2, by unfold spec_l1Cur_pick.f; rw [if_pos (by omega)], by omega, by omega, by omega, by omega⟩
 · obtain ⟨b, s2', hb, hb0, hb1⟩ := pick_ok hl s1 s2 n h0 h1 (by omega) hn2
   exact ⟨b, s1 + 1, s2', hb, hb0, hb1, by omega, by omega⟩
theorem among_ok {l : List Int} (hl : byteL l) (s1 s2 : Int) (xs : List Int) (h0 : 0 ≤ s1) (h1 : s1 ≤ 1000000) (hn : 1 ≤ xs.length) (hn2 : xs.length ≤ 200) : ∃ x s1' s2', spec_l1Cur_among.f l s1 s2 xs = some (x, s1', s2') ∧ x ∈ xs ∧ s1 ≤ s1' ∧ s1' ≤ s1 + 1 := by
 obtain ⟨b, s1', s2', hb, hb0, hb1, hs, hs'⟩ := pick_any hl s1 s2 (xs.length : Int) h0 h1 (by omega) (by omega)
 unfold spec_l1Cur_among.f
 rw [hb]
 simp only [Option.bind_some]
 rw [if_pos hb0, if_pos hb1]
 refine ⟨_, _, _, rfl, ?_, hs, hs'⟩
 have hi : b.toNat < xs.length := by omega
 have e : rd xs b = xs[b.toNat] := by simp [rd, List.getD_eq_getElem?_getD, List.getElem?_eq_getElem hi]
 rw [e]
 exact List.getElem_mem hi
theorem own_ok (x : List Int) (h : x.length ≤ 1000) : spec_l1Own.f x = some x := by
 unfold spec_l1Own.f
 simp only [Option.bind_some, List.length_nil, Nat.zero_add, List.nil_append]
 rw [if_pos (by omega)]
theorem order_l {l : List Int} (hl : byteL l) : ∀ (d : Nat) (x : List Int) (s1 s2 : Int), x.length + d ≤ 7 → 1 ≤ x.length + d → 0 ≤ s1 → s1 + d ≤ 900000 →
 ∃ v, Ev (fun k => spec_l1Cur_order.l0 k x (d : Int) l s1 s2) v ∧ v.1.length ≤ 8 ∧ 0 ≤ v.2.1 ∧ v.2.1 ≤ s1 + d + 3 := by
 intro d
 induction d with
 | zero =>
  intro x s1 s2 hx hx1 h0 h1
  obtain ⟨p, s3, s4, hp, hp0, hp1, hs, hs'⟩ := pick_any hl s1 s2 40 h0 (by omega) (by omega) (by omega)
  by_cases hz : p = 0
  · refine ⟨([], s3, s4), ev_succ ?_, by simp, by simp only; omega, by simp only; omega⟩
    simp only [spec_l1Cur_order.l0.eq_2, hp]
    exact ev_neg (by omega) (ev_let (ev_pos hz (ev_now rfl)))
  · by_cases hz1 : p = 1
    · obtain ⟨q, s5, s6, hq, hq0, hq1, ht, ht'⟩ := pick_any hl s3 s4 (x.length : Int) (by omega) (by omega) (by omega) (by omega)
      obtain ⟨y, s7, s8, hy, _, hu, hu'⟩ := among_ok hl s5 s6 [0, 1, 8, (-1)] (by omega) (by omega) (by decide) (by decide)
      refine ⟨(x.set q.toNat y, s7, s8), ev_succ ?_, by simp; omega, by simp only; omega, by simp only; omega⟩
      simp only [spec_l1Cur_order.l0.eq_2, hp]
      refine ev_neg (by omega) (ev_let (ev_neg hz (ev_pos hz1 ?_)))
      simp only [hq]
      refine ev_let ?_
      simp only [hy]
      exact ev_let (ev_pos hq0 (ev_pos hq1 (ev_now rfl)))
    · by_cases hz2 : p = 2
      · refine ⟨([1, 2, 3, 4, 5, 6, 7, 8], s3, s4), ev_succ ?_, by simp, by simp only; omega, by simp only; omega⟩
        simp only [spec_l1Cur_order.l0.eq_2, hp]
        exact ev_neg (by omega) (ev_let (ev_neg hz (ev_neg hz1 (ev_pos hz2 (ev_now rfl)))))
      · refine ⟨(x, s3, s4), ev_succ ?_, by simp only; omega, by simp only; omega, by simp only; omega⟩
        simp only [spec_l1Cur_order.l0.eq_2, hp]
        exact ev_neg (by omega) (ev_let (ev_neg hz (ev_neg hz1 (ev_neg hz2 (ev_now rfl)))))
 | succ d ih =>
  intro x s1 s2 hx hx1 h0 h1
  obtain ⟨p, s3, s4, hp, hp0, hp1, hs, hs'⟩ := pick_any hl s1 s2 ((x.length : Int) + 1) h0 (by omega) (by omega) (by omega)
  have hw : wrap64 ((x.length : Int) + 1) = (x.length : Int) + 1 := wrap_of (by omega) (by omega)
  have hlen : ((x.take p.toNat ++ [(x.length : Int) + 1]) ++ x.drop p.toNat).length = x.length + 1 := by simp; omega
  obtain ⟨v, hv, hv1, hv2, hv3⟩ := ih ((x.take p.toNat ++ [(x.length : Int) + 1]) ++ x.drop p.toNat) s3 s4 (by rw [hlen]; omega) (by omega) (by omega) (by omega)
  refine ⟨v, ev_succ ?_, hv1, hv2, by omega⟩
  have how := own_ok (x.take p.toNat) (by simp; omega)
  simp only [spec_l1Cur_order.l0.eq_2, hw, hp]
  rw [wrap_of (x := ((d + 1 : Nat) : Int) - 1) (by omega) (by omega), show ((d + 1 : Nat) : Int) - 1 = (d : Int) by omega]
  refine ev_pos (by omega) (ev_let (ev_pos hp0 (ev_pos (by simp only; omega) ?_)))
  simp only [how]
  exact ev_let (ev_let (ev_pos (by simp; omega) (ev_let (ev_let (ev_pos (by simp; omega) hv)))))
theorem order_ok {l : List Int} (hl : byteL l) (s1 s2 : Int) (h0 : 0 ≤ s1) (h1 : s1 ≤ 800000) : ∃ v, Ev (fun k => spec_l1Cur_order.f k l s1 s2) v ∧ v.1.length ≤ 8 ∧ 0 ≤ v.2.1 ∧ v.2.1 ≤ s1 + 20 := by
 obtain ⟨y, s3, s4, hy, hm, hs, hs'⟩ := among_ok hl s1 s2 [4, 5, 3, 6, 2, 7, 1, 4] h0 (by omega) (by decide) (by decide)
 have hr : 1 ≤ y ∧ y ≤ 7 := by
  simp only [List.mem_cons, List.not_mem_nil, or_false] at hm
  omega
 obtain ⟨v, hv, hv1, hv2, hv3⟩ := order_l hl y.toNat [] s3 s4 (by simp; omega) (by simp; omega) (by omega) (by omega)
 refine ⟨v, ?_, hv1, hv2, by omega⟩
 unfold spec_l1Cur_order.f
 rw [hy]
 refine ev_let ?_
 rw [show ((y.toNat : Nat) : Int) = y by omega] at hv
 exact hv

/-! ### further drawing functions -/
theorem pick_all {l : List Int} (hl : byteL l) (s1 s2 n : Int) (h0 : 0 ≤ s1) (h1 : s1 ≤ 900000) (hn : 1 ≤ n) (hn2 : n ≤ 1000000) : ∃ b s1' s2', spec_l1Cur_pick.f l s1 s2 n = some (b, s1', s2') ∧ 0 ≤ b ∧ b < n ∧ s1 ≤ s1' ∧ s1' ≤ s1 + 2 := by
 by_cases h : n ≤ 200
 · obtain ⟨b, s1', s2', hb, h2, h3, h4, h5⟩ := pick_any hl s1 s2 n h0 (by omega) hn h
   exact ⟨b, s1', s2', hb, h2, h3, h4, by omega⟩
 · obtain ⟨b, s2', hb, hb0, hb1⟩ := next_ok hl s1 s2 h0 (by omega)
   obtain ⟨c, s3', hc, hc0, hc1⟩ := next_ok hl (s1 + 1) s2' (by omega) (by omega)
   unfold spec_l1Cur_pick.f
   rw [if_neg (by omega), hb]
   simp only [Option.bind_some]
   rw [if_pos (by omega), hc]
   simp only [Option.bind_some]
   rw [if_neg (by omega), wrap_of (x := b * 256) (by omega) (by omega), wrap_of (by omega) (by omega)]
   refine ⟨_, _, _, rfl, ?_, ?_, by omega, by omega⟩
   · rw [Int.tmod_eq_emod_of_nonneg (by omega)]; exact Int.emod_nonneg _ (by omega)
   · rw [Int.tmod_eq_emod_of_nonneg (by omega)]; exact Int.emod_lt_of_pos _ (by omega)
theorem one_any {l : List Int} (hl : byteL l) (s1 s2 n : Int) (h0 : 0 ≤ s1) (h1 : s1 ≤ 900000) (hn : 1 ≤ n) (hn2 : n ≤ 200) : ∃ b s1' s2', spec_l1Cur_one.f l s1 s2 n = some (b, s1', s2') ∧ s1 ≤ s1' ∧ s1' ≤ s1 + 1 := by
 obtain ⟨b, s3, s4, hb, _, _, hs, hs'⟩ := pick_any hl s1 s2 n h0 (by omega) hn hn2
 exact ⟨b == 0, s3, s4, by unfold spec_l1Cur_one.f; rw [hb]; rfl, hs, hs'⟩

theorem size_of_text {a : ByteArray} (h : ¬ a.toList = ([] : List UInt8)) : 1 ≤ a.size := by
 rcases Nat.eq_zero_or_pos a.size with h0 | h0
 · have e : a = ⟨#[]⟩ := ByteArray.ext (Array.eq_empty_of_size_eq_zero h0)
   exact absurd (by rw [e]; unfold ByteArray.toList; unfold ByteArray.toList.loop; rfl) h
 · exact h0
theorem spo_size (a x : ByteArray) (p : Nat) (r : Int) (hx : x.size ≤ 1) (hp : p < a.size) : (spo a x p r).size ≤ a.size + 1 := by
 unfold spo
 split
 · simp only [ByteArray.size_append, ByteArray.size_extract]; omega
 · split
   · simp only [ByteArray.size_append, ByteArray.size_extract]; omega
   · simp only [ByteArray.size_append, ByteArray.size_extract]; omega
theorem spoilt_ok2 {l : List Int} (hl : byteL l) (s1 s2 : Int) (a b : ByteArray) (h0 : 0 ≤ s1) (h1 : s1 ≤ 800000) (ha : a.size ≤ 100) (hb : 1 ≤ b.size) (hb2 : b.size ≤ 100) : ∃ t s1' s2', spec_l1Cur_spoilt.f l s1 s2 a b = some (t, s1', s2') ∧ t.size ≤ a.size + 1 ∧ s1 ≤ s1' ∧ s1' ≤ s1 + 3 := by
 unfold spec_l1Cur_spoilt.f
 by_cases h : a.toList = ([] : List UInt8)
 · rw [if_pos h, if_pos ⟨hb, by omega⟩]
   exact ⟨_, _, _, rfl, by rw [ByteArray.size_extract]; omega, by omega, by omega⟩
 · rw [if_neg h]
   have hs := size_of_text h
   obtain ⟨p, p1, p2, hp, hp0, hp1, hp2, hp3⟩ := pick_any hl s1 s2 (a.size : Int) h0 (by omega) (by omega) (by omega)
   obtain ⟨q, q1, q2, hq, hq0, hq1, hq2, hq3⟩ := pick_any hl p1 p2 (b.size : Int) (by omega) (by omega) (by omega) (by omega)
   obtain ⟨r, r1, r2, hr, hr0, hr1, hr2, hr3⟩ := pick_any hl q1 q2 3 (by omega) (by omega) (by omega) (by omega)
   rw [hp]
   simp only [Option.bind_some]
   rw [hq]
   simp only [Option.bind_some]
   rw [hr]
   simp only [Option.bind_some]
   rw [if_pos ⟨hp0, hp1, hq0, hq1, by omega, by omega⟩]
   exact ⟨_, _, _, rfl, spo_size _ _ _ _ (by simp only [ByteArray.size_extract]; omega) (by omega), by omega, by omega⟩

/-! ### Is it an order? -/
theorem in_ev (a b c : Int) : Ev (fun _ => spec_l1In.f a b c) (decide (b ≤ a) && decide (a ≤ c)) := by
 unfold spec_l1In.f
 by_cases h : a ≥ b
 · refine ev_pos h (ev_now ?_)
   have : decide (b ≤ a) = true := decide_eq_true h
   rw [this]; rfl
 · refine ev_neg h (ev_now ?_)
   have : decide (b ≤ a) = false := decide_eq_false (by omega)
   rw [this]; rfl

theorem has_l (l : List Int) (x : Int) (hl : l.length ≤ 140737488351232) : ∀ (suf pre : List Int), l = pre ++ suf → Ev (fun k => spec_l1Has.l0 k l x (pre.length : Int)) (decide (x ∈ suf)) := by
 intro suf
 induction suf with
 | nil =>
  intro pre e
  have h := len_end e
  refine ev_succ ?_
  simp only [spec_l1Has.l0.eq_2]
  refine ev_neg (by omega) ?_
  exact ev_now (by simp)
 | cons c suf ih =>
  intro pre e
  have h := len_mid e
  refine ev_succ ?_
  simp only [spec_l1Has.l0.eq_2, rd_mid' e]
  refine ev_pos (by omega) (ev_pos (by omega) ?_)
  by_cases hc : c = x
  · exact ev_pos hc (ev_now (by simp [hc]))
  · refine ev_neg hc ?_
    rw [wrap_snoc (pre := pre) (c := c) (by omega)]
    refine ev_eq (ih _ (snoc_mid e)) ?_
    have : x ≠ c := fun h => hc h.symm
    simp [this]
theorem has_ev (l : List Int) (x : Int) (hl : l.length ≤ 140737488351232) : Ev (fun k => spec_l1Has.f k l x) (decide (x ∈ l)) := by
 unfold spec_l1Has.f
 exact has_l l x hl l [] rfl
theorem idx_l (l : List Int) (x : Int) (hl : l.length ≤ 140737488351232) : ∀ (suf pre : List Int), l = pre ++ suf → Ev (fun k => slices_Index_int_int.l0 k l x (l.length : Int) (pre.length : Int)) (if x ∈ suf then ((pre.length + suf.idxOf x : Nat) : Int) else -1) := by
 intro suf
 induction suf with
 | nil =>
  intro pre e
  have h := len_end e
  refine ev_succ ?_
  simp only [slices_Index_int_int.l0.eq_2]
  refine ev_neg (by omega) ?_
  exact ev_now (by simp)
 | cons c suf ih =>
  intro pre e
  have h := len_mid e
  refine ev_succ ?_
  simp only [slices_Index_int_int.l0.eq_2, rd_mid' e]
  refine ev_pos (by omega) (ev_pos (by omega) (ev_pos (by omega) ?_))
  by_cases hc : x = c
  · exact ev_pos hc (ev_now (by simp [hc]))
  · refine ev_neg hc ?_
    rw [wrap_snoc (pre := pre) (c := c) (by omega)]
    refine ev_eq (ih _ (snoc_mid e)) ?_
    have hc' : ¬ c = x := fun h => hc h.symm
    have hb : (c == x) = false := by simpa using hc'
    simp only [List.mem_cons, hc, false_or, List.idxOf_cons, hb, cond_false]
    by_cases hm : x ∈ suf
    · rw [if_pos hm, if_pos hm]; simp; omega
    · rw [if_neg hm, if_neg hm]
theorem idx_ev (l : List Int) (x : Int) (hl : l.length ≤ 140737488351232) : Ev (fun k => slices_Index_int_int.f k l x) (if x ∈ l then ((l.idxOf x : Nat) : Int) else -1) := by
 unfold slices_Index_int_int.f
 simpa using idx_l l x hl l [] rfl
theorem contains_ev (l : List Int) (x : Int) (hl : l.length ≤ 140737488351232) : Ev (fun k => slices_Contains_int_int.f k l x) (decide (x ∈ l)) := by
 unfold slices_Contains_int_int.f
 refine ev_bind (idx_ev l x hl) (ev_now ?_)
 by_cases h : x ∈ l
 · simp [h]
 · simp [h]


theorem spec_order_l (l : List Int) (hl : l.length ≤ 140737488351232) : ∀ (suf pre : List Int), l = pre ++ suf → Ev (fun k => spec_l2Order.l0 k l (pre.length : Int)) (ordGo (l.length : Int) pre suf) := by
 intro suf
 induction suf with
 | nil =>
  intro pre e
  have h := len_end e
  refine ev_succ ?_
  simp only [spec_l2Order.l0.eq_2]
  refine ev_neg (by omega) ?_
  exact ev_now rfl
 | cons c suf ih =>
  intro pre e
  have h := len_mid e
  refine ev_succ ?_
  simp only [spec_l2Order.l0.eq_2, rd_mid' e, take_mid e]
  refine ev_pos (by omega) (ev_pos (by omega) (ev_bind (in_ev _ _ _) ?_))
  by_cases hr : 1 ≤ c ∧ c ≤ (l.length : Int)
  · refine ev_pos (by simp [hr.1, hr.2]) (ev_pos (by omega) (ev_bind (has_ev pre c (by omega)) ?_))
    by_cases hc : c ∈ pre
    · exact ev_pos (by simp [hc]) (ev_now (by simp [ordGo, hc]))
    · refine ev_neg (by simp [hc]) ?_
      rw [wrap_snoc (pre := pre) (c := c) (by omega)]
      refine ev_eq (ih _ (snoc_mid e)) ?_
      simp [ordGo, hr.1, hr.2, hc]
  · refine ev_neg (by simp; omega) (ev_now ?_)
    simp only [ordGo]
    rw [if_neg (fun h => hr ⟨h.1, h.2.1⟩)]
theorem spec_order_ev (l : List Int) (hl : l.length ≤ 140737488351232) : Ev (fun k => spec_l2Order.f k l) (isOrd l) := by
 unfold spec_l2Order.f
 refine ev_bind (in_ev _ _ _) ?_
 unfold isOrd
 by_cases h : 1 ≤ l.length ∧ l.length ≤ 7
 · refine ev_pos (by simp; omega) ?_
   rw [if_pos h]
   exact spec_order_l l hl l [] rfl
 · refine ev_neg (by simp; omega) (ev_now ?_)
   rw [if_neg h]
theorem impl_order_l (l : List Int) (hl : l.length ≤ 140737488351232) : ∀ (suf pre : List Int), l = pre ++ suf → Ev (fun k => impl_isOrder.l0 k l l (l.length : Int) (pre.length : Int)) (ordGo (l.length : Int) pre suf) := by
 intro suf
 induction suf with
 | nil =>
  intro pre e
  have h := len_end e
  refine ev_succ ?_
  simp only [impl_isOrder.l0.eq_2]
  refine ev_neg (by omega) ?_
  exact ev_now rfl
 | cons c suf ih =>
  intro pre e
  have h := len_mid e
  refine ev_succ ?_
  simp only [impl_isOrder.l0.eq_2, rd_mid' e, take_mid e]
  refine ev_pos (by omega) (ev_pos (by omega) (ev_pos (by omega) ?_))
  by_cases h1 : c < 1
  · exact ev_pos h1 (ev_now (by simp only [ordGo]; rw [if_neg (fun h => by omega)]))
  refine ev_neg h1 ?_
  by_cases h2 : c > (l.length : Int)
  · exact ev_pos h2 (ev_now (by simp only [ordGo]; rw [if_neg (fun h => by omega)]))
  refine ev_neg h2 (ev_pos (by omega) (ev_bind (contains_ev pre c (by omega)) ?_))
  by_cases hc : c ∈ pre
  · exact ev_pos (by simp [hc]) (ev_now (by simp [ordGo, hc]))
  · refine ev_neg (by simp [hc]) ?_
    rw [wrap_snoc (pre := pre) (c := c) (by omega)]
    refine ev_eq (ih _ (snoc_mid e)) ?_
    simp only [ordGo]
    rw [if_pos ⟨by omega, by omega, hc⟩]
theorem impl_order_ev (l : List Int) (hl : l.length ≤ 140737488351232) : Ev (fun k => impl_isOrder.f k l) (isOrd l) := by
 have key : ∀ b : Bool, Ev (fun k => impl_isOrder.j0 k l b) (if b = true then false else ordGo (l.length : Int) [] l) := by
  intro b
  refine ev_succ ?_
  simp only [impl_isOrder.j0.eq_2]
  cases b with
  | true => exact ev_pos rfl (ev_now rfl)
  | false => exact ev_neg (by simp) (impl_order_l l hl l [] rfl)
 unfold impl_isOrder.f isOrd
 by_cases h1 : (l.length : Int) < 1
 · refine ev_pos h1 (ev_eq (key true) ?_)
   rw [if_pos rfl, if_neg (fun h => by omega)]
 · refine ev_neg h1 (ev_eq (key _) ?_)
   by_cases h2 : (l.length : Int) > 7
   · rw [if_neg (c := 1 ≤ l.length ∧ l.length ≤ 7) (fun h => by omega), if_pos (decide_eq_true h2)]
   · rw [if_pos (c := 1 ≤ l.length ∧ l.length ≤ 7) ⟨by omega, by omega⟩, if_neg (by simp; omega)]


theorem same_l (a b : List Int) (hl : a.length * 8 ≤ 140737488351232) : ∀ (s t pre q : List Int), a = pre ++ s → b = q ++ t → pre.length = q.length → s.length = t.length → Ev (fun k => spec_l1Same.l0 k a b (pre.length : Int)) (decide (s = t)) := by
 intro s
 induction s with
 | nil =>
  intro t pre q e e' h1 h2
  have h := len_end e
  obtain rfl : t = [] := by cases t with
   | nil => rfl
   | cons _ _ => simp at h2
  refine ev_succ ?_
  simp only [spec_l1Same.l0.eq_2]
  refine ev_neg (by omega) ?_
  exact ev_now (by simp)
 | cons c s ih =>
  intro t pre q e e' h1 h2
  cases t with
  | nil => simp at h2
  | cons d t =>
  have h := len_mid e
  have h' := len_mid e'
  refine ev_succ ?_
  have r1 := rd_mid' e
  have r2 := rd_mid' e'
  rw [← h1] at r2
  simp only [spec_l1Same.l0.eq_2, r1, r2]
  refine ev_pos (by omega) (ev_pos (by omega) (ev_pos (by omega) ?_))
  by_cases hc : c = d
  · refine ev_pos hc ?_
    rw [wrap_snoc (pre := pre) (c := c) (by omega)]
    refine ev_eq (ih t (pre ++ [c]) (q ++ [d]) (snoc_mid e) (snoc_mid e') (by simp [h1]) (by simpa using h2)) ?_
    simp [hc]
  · refine ev_neg hc (ev_now ?_)
    simp [hc]
theorem same_ev (a b : List Int) (hl : a.length * 8 ≤ 140737488351232) : Ev (fun k => spec_l1Same.f k a b) (decide (a = b)) := by
 unfold spec_l1Same.f
 by_cases h : a.length = b.length
 · refine ev_pos (by omega) ?_
   exact same_l a b hl a b [] [] rfl rfl rfl h
 · refine ev_neg (by omega) (ev_now ?_)
   symm
   exact decide_eq_false (fun e => h (by rw [e]))

/-! ### rows in ascending sequence, each once -/
def putL : List (List Int) → List Int → List (List Int)
 | [], x => [x]
 | c :: s, x => if ltL c x = true then c :: putL s x else if c = x then c :: s else x :: c :: s
abbrev Strict (l : List (List Int)) : Prop := l.Pairwise (fun a b => ltL a b = true)
theorem putL_mem : ∀ (rows : List (List Int)) (x y : List Int), y ∈ putL rows x ↔ y = x ∨ y ∈ rows := by
 intro rows
 induction rows with
 | nil => intro x y; simp [putL]
 | cons c s ih =>
  intro x y
  simp only [putL]
  by_cases h1 : ltL c x = true
  · rw [if_pos h1, List.mem_cons, ih, List.mem_cons]
    constructor
    · rintro (h | h | h)
      · exact .inr (.inl h)
      · exact .inl h
      · exact .inr (.inr h)
    · rintro (h | h | h)
      · exact .inr (.inl h)
      · exact .inl h
      · exact .inr (.inr h)
  · rw [if_neg h1]
    by_cases h2 : c = x
    · rw [if_pos h2]; subst h2; simp
    · rw [if_neg h2]; simp
theorem putL_strict : ∀ (rows : List (List Int)) (x : List Int), Strict rows → Strict (putL rows x) := by
 intro rows
 induction rows with
 | nil => intro x _; simp [putL, Strict]
 | cons c s ih =>
  intro x h
  obtain ⟨hc, hs⟩ := List.pairwise_cons.1 h
  simp only [putL]
  by_cases h1 : ltL c x = true
  · rw [if_pos h1]
    refine List.pairwise_cons.2 ⟨fun y hy => ?_, ih x hs⟩
    rcases (putL_mem s x y).1 hy with rfl | hy
    · exact h1
    · exact hc y hy
  · rw [if_neg h1]
    by_cases h2 : c = x
    · rw [if_pos h2]; exact h
    · rw [if_neg h2]
      have h3 : ltL x c = true := by
       cases hq : ltL x c with
       | true => rfl
       | false => exact absurd (ltL_total (by simpa using h1) hq) h2
      refine List.pairwise_cons.2 ⟨fun y hy => ?_, h⟩
      rcases List.mem_cons.1 hy with rfl | hy
      · exact h3
      · exact ltL_trans h3 (hc y hy)
theorem strict_ext : ∀ (a b : List (List Int)), Strict a → Strict b → (∀ y, y ∈ a ↔ y ∈ b) → a = b := by
 intro a
 induction a with
 | nil =>
  intro b _ _ h
  cases b with
  | nil => rfl
  | cons y t => exact absurd ((h y).2 (by simp)) (by simp)
 | cons x s ih =>
  intro b ha hb h
  cases b with
  | nil => exact absurd ((h x).1 (by simp)) (by simp)
  | cons y t =>
   obtain ⟨hx, hs⟩ := List.pairwise_cons.1 ha
   obtain ⟨hy, ht⟩ := List.pairwise_cons.1 hb
   have hxy : x = y := by
    rcases List.mem_cons.1 ((h x).1 (by simp)) with e | e
    · exact e
    · rcases List.mem_cons.1 ((h y).2 (by simp)) with e' | e'
      · exact e'.symm
      · have := ltL_trans (hx y e') (hy x e)
        rw [ltL_irrefl] at this; cases this
   subst hxy
   refine congrArg (x :: ·) (ih t hs ht (fun z => ⟨fun hz => ?_, fun hz => ?_⟩))
   · rcases List.mem_cons.1 ((h z).1 (by simp [hz])) with e | e
     · subst e; have := hx z hz; rw [ltL_irrefl] at this; cases this
     · exact e
   · rcases List.mem_cons.1 ((h z).2 (by simp [hz])) with e | e
     · subst e; have := hy z hz; rw [ltL_irrefl] at this; cases this
     · exact e
theorem thinG_mem : ∀ (s : List (List Int)) (p y : List Int), y ∈ p :: thinG p s ↔ y ∈ p :: s := by
 intro s
 induction s with
 | nil => intro p y; rfl
 | cons c s ih =>
  intro p y
  simp only [thinG]
  by_cases h : c = p
  · rw [if_pos h]
    subst h
    rw [ih c y]
    simp
  · rw [if_neg h]
    have := ih c y
    simp only [List.mem_cons] at this ⊢
    constructor
    · rintro (h1 | h1)
      · exact .inl h1
      · exact .inr (this.1 h1)
    · rintro (h1 | h1)
      · exact .inl h1
      · exact .inr (this.2 h1)
theorem tidyG_mem (rows : List (List Int)) (y : List Int) : y ∈ tidyG rows ↔ y ∈ rows := by
 unfold tidyG
 rw [← (sortG_perm rows).mem_iff]
 cases sortG rows with
 | nil => rfl
 | cons c s => exact thinG_mem s c y
theorem thinG_strict : ∀ (s : List (List Int)) (p : List Int), (p :: s).Pairwise (fun x y => ltL y x = false) → Strict (p :: thinG p s) := by
 intro s
 induction s with
 | nil => intro p _; simp [thinG, Strict]
 | cons c s ih =>
  intro p h
  obtain ⟨hp, hcs⟩ := List.pairwise_cons.1 h
  have hcs' := ih c hcs
  simp only [thinG]
  by_cases e : c = p
  · rw [if_pos e]
    subst e
    exact hcs'
  · rw [if_neg e]
    have hlt : ltL p c = true := by
     cases hq : ltL p c with
     | true => rfl
     | false => exact absurd (ltL_total (hp c (by simp)) hq) e
    refine List.pairwise_cons.2 ⟨fun y hy => ?_, hcs'⟩
    rcases List.mem_cons.1 hy with rfl | hy
    · exact hlt
    · exact ltL_trans hlt ((List.pairwise_cons.1 hcs').1 y hy)
theorem tidyG_strict (rows : List (List Int)) : Strict (tidyG rows) := by
 unfold tidyG
 have h := sortG_sorted rows
 cases hq : sortG rows with
 | nil => simp [compactG, Strict]
 | cons c s => rw [hq] at h; exact thinG_strict s c h
def putAllL (rows : List (List Int)) : List (List Int) := rows.foldl putL []
theorem putAll_gen : ∀ (rows acc : List (List Int)), Strict acc → Strict (rows.foldl putL acc) ∧ ∀ y, y ∈ rows.foldl putL acc ↔ y ∈ acc ∨ y ∈ rows := by
 intro rows
 induction rows with
 | nil => intro acc h; exact ⟨h, fun y => by simp⟩
 | cons c s ih =>
  intro acc h
  obtain ⟨h1, h2⟩ := ih (putL acc c) (putL_strict acc c h)
  refine ⟨h1, fun y => ?_⟩
  rw [List.foldl_cons, h2, putL_mem, List.mem_cons]
  constructor
  · rintro ((h | h) | h)
    · exact .inr (.inl h)
    · exact .inl h
    · exact .inr (.inr h)
  · rintro (h | h | h)
    · exact .inl (.inr h)
    · exact .inl (.inl h)
    · exact .inr h
theorem putAll_tidy (rows : List (List Int)) : rows.foldl putL [] = tidyG rows := by
 obtain ⟨h1, h2⟩ := putAll_gen rows [] (by simp [Strict])
 exact strict_ext _ _ h1 (tidyG_strict rows) (fun y => by rw [h2, tidyG_mem]; simp)

/-! ### l2Before, l2PutOrder -/
theorem ltL_cons (c d : Int) (s t : List Int) : ltL (c :: s) (d :: t) = if c < d then true else if d < c then false else ltL s t := by
 unfold ltL
 have e : lexC (c :: s) (d :: t) = if c < d then -1 else if d < c then 1 else lexC s t := rfl
 rw [e]
 by_cases h1 : c < d
 · simp [h1]
 · by_cases h2 : d < c
   · simp [h1, h2]
   · simp [h1, h2]
theorem before_l (a b : List Int) (ha : a.length ≤ 1000) (hab : a.length = b.length) : ∀ (s t pre q : List Int), a = pre ++ s → b = q ++ t → pre.length = q.length → Ev (fun k => spec_l2Before.l0 k a b (pre.length : Int)) (ltL s t) := by
 intro s
 induction s with
 | nil =>
  intro t pre q e e' h1
  have h := len_end e
  obtain rfl : t = [] := by
   have : b.length = q.length + t.length := by rw [e']; simp
   have : t.length = 0 := by omega
   exact List.length_eq_zero_iff.1 this
  refine ev_succ ?_
  simp only [spec_l2Before.l0.eq_2]
  exact ev_neg (by omega) (ev_now rfl)
 | cons c s ih =>
  intro t pre q e e' h1
  have h := len_mid e
  cases t with
  | nil =>
   have := len_end (xs := b) (pre := q) (by simpa using e')
   omega
  | cons d t =>
  have h' := len_mid e'
  refine ev_succ ?_
  have r1 := rd_mid' e
  have r2 := rd_mid' e'
  rw [← h1] at r2
  simp only [spec_l2Before.l0.eq_2, r1, r2]
  refine ev_pos (by omega) (ev_pos (by omega) (ev_pos (by omega) ?_))
  by_cases hc : c = d
  · refine ev_pos hc ?_
    rw [wrap_snoc (pre := pre) (c := c) (by omega)]
    refine ev_eq (ih t (pre ++ [c]) (q ++ [d]) (snoc_mid e) (snoc_mid e') (by simp [h1])) ?_
    rw [ltL_cons, if_neg (by omega), if_neg (by omega)]
  · refine ev_neg hc (ev_now ?_)
    rw [ltL_cons]
    by_cases h1 : c < d
    · rw [if_pos h1]; simp [h1]
    · rw [if_neg h1, if_pos (by omega)]; simp [h1]
theorem before_ev (a b : List Int) (ha : a.length ≤ 1000) (hab : a.length = b.length) : Ev (fun k => spec_l2Before.f k a b) (ltL a b) := by
 unfold spec_l2Before.f
 exact before_l a b ha hab a b [] [] rfl rfl rfl
theorem put_l (L : Nat) (hL : L ≤ 1000) (rows : List (List Int)) (x : List Int) (hr : rows.length ≤ 1000000) (hx : x.length = L) (hrl : ∀ y ∈ rows, y.length = L) : ∀ (suf pre : List (List Int)), rows = pre ++ suf → Ev (fun k => spec_l2PutOrder.l0 k rows x (pre.length : Int)) (pre ++ putL suf x) := by
 intro suf
 induction suf with
 | nil =>
  intro pre e
  have h := len_end e
  refine ev_succ ?_
  simp only [spec_l2PutOrder.l0.eq_2]
  have ht : rows.take ((pre.length : Int)).toNat = pre := take_mid e
  have hd : rows.drop ((pre.length : Int)).toNat = [] := by rw [e]; simp
  refine ev_neg (by omega) (ev_let (ev_pos (by omega) (ev_pos (by omega) (ev_let ?_))))
  rw [ht, hd]
  refine ev_pos (by simp; omega) (ev_let (ev_let (ev_pos (by simp; omega) (ev_let (ev_let (ev_pos (by simp; omega) (ev_now ?_)))))))
  simp [putL]
 | cons c suf ih =>
  intro pre e
  have h := len_mid e
  have hrd : rd_L2 rows (pre.length : Int) = c := by rw [e]; simp [rd_L2]
  have hcl := hrl c (by rw [e]; simp)
  have ht : rows.take ((pre.length : Int)).toNat = pre := take_mid e
  have hd : rows.drop ((pre.length : Int)).toNat = c :: suf := by rw [e]; simp
  refine ev_succ ?_
  simp only [spec_l2PutOrder.l0.eq_2, hrd]
  refine ev_pos (by omega) (ev_pos (by omega) (ev_bind (before_ev c x (by omega) (by omega)) ?_))
  simp only [putL]
  by_cases h1 : ltL c x = true
  · rw [if_pos h1]
    refine ev_pos h1 ?_
    rw [wrap_snoc (pre := pre) (c := c) (by omega)]
    refine ev_eq (ih (pre ++ [c]) (snoc_mid e)) ?_
    simp
  · rw [if_neg h1]
    refine ev_neg h1 (ev_bind (same_ev c x (by omega)) ?_)
    by_cases h2 : c = x
    · rw [if_pos h2]
      exact ev_pos (by simp [h2]) (ev_now (by rw [e]))
    · rw [if_neg h2]
      refine ev_neg (by simp [h2]) (ev_let (ev_pos (by omega) (ev_let ?_)))
      rw [ht, hd]
      refine ev_pos (by simp; omega) (ev_let (ev_let (ev_pos (by simp; omega) (ev_let (ev_let (ev_pos (by simp; omega) (ev_now ?_)))))))
      simp
theorem put_ev (L : Nat) (hL : L ≤ 1000) (rows : List (List Int)) (x : List Int) (hr : rows.length ≤ 1000000) (hx : x.length = L) (hrl : ∀ y ∈ rows, y.length = L) : Ev (fun k => spec_l2PutOrder.f k rows x) (putL rows x) := by
 unfold spec_l2PutOrder.f
 exact put_l L hL rows x hr hx hrl rows [] rfl
theorem putL_len (rows : List (List Int)) (x : List Int) : (putL rows x).length ≤ rows.length + 1 := by
 induction rows with
 | nil => simp [putL]
 | cons c s ih =>
  simp only [putL]
  split
  · simp; omega
  · split <;> simp

/-! ### what comes out by a word -/
theorem spec_run_l (l : List Int) (w : ByteArray) (hl : l.length ≤ 7) (hw : w.size ≤ 14) : ∀ (suf pre rem done st out : List Int), bytesOf w = pre ++ suf → l = done ++ rem → wGo suf (st.length : Int) = true → suf.length = 2 * rem.length + st.length → out.length + st.length ≤ 7 → done.length = out.length + st.length → Ev (fun k => spec_l2Run.l0 k l w out.reverse st.reverse (done.length : Int) (pre.length : Int)) (runGo suf rem st out) := by
 intro suf
 induction suf with
 | nil =>
  intro pre rem done st out e el hg h2 h3 h4
  have h := size_end e
  refine ev_succ ?_
  simp only [spec_l2Run.l0.eq_2]
  exact ev_neg (by omega) (ev_now (by simp [runGo]))
 | cons c suf ih =>
  intro pre rem done st out e el hg h2 h3 h4
  have h := size_mid e
  simp only [List.length_cons] at h2
  refine ev_succ ?_
  simp only [spec_l2Run.l0.eq_2, bt_mid e]
  rw [wrap_snoc (pre := pre) (c := c) (by omega)]
  refine ev_pos (by omega) (ev_pos (by omega) ?_)
  by_cases hI : c = 73
  · subst hI
    rw [wGo_in] at hg
    have hlen := wGo_len _ _ (by omega) hg
    cases rem with
    | nil => simp only [List.length_nil] at h2; omega
    | cons x rem =>
     have hd := len_mid el
     simp only [List.length_cons] at h2
     rw [rd_mid' el, wrap_snoc (pre := done) (c := x) (by omega), show st.reverse ++ [x] = (x :: st).reverse by simp]
     refine ev_pos rfl (ev_pos (by omega) (ev_pos (by omega) (ev_pos (by simp; omega) ?_)))
     refine ev_eq (ih _ rem (done ++ [x]) (x :: st) out (snoc_mid e) (snoc_mid el) ?_ ?_ ?_ ?_) ?_
     · simpa using hg
     · simp only [List.length_cons]; omega
     · simp only [List.length_cons]; omega
     · simp; omega
     · simp [runGo]
  · by_cases hO : c = 79
    · subst hO
      rw [wGo_out] at hg
      by_cases hd : (st.length : Int) > 0
      · rw [if_pos hd] at hg
        cases st with
        | nil => simp at hd
        | cons x st =>
         simp only [List.length_cons] at hg h2 h3 h4
         have hlen : ((x :: st).reverse.length : Int) = st.length + 1 := by simp
         rw [wrap_of (x := ((x :: st).reverse.length : Int) - 1) (by omega) (by omega), top_rev, pop_rev, show out.reverse ++ [x] = (x :: out).reverse by simp]
         refine ev_neg hI (ev_pos (by omega) (ev_pos (by omega) (ev_pos (by simp; omega) (ev_pos (by omega) ?_))))
         refine ev_eq (ih _ rem done st (x :: out) (snoc_mid e) el ?_ ?_ ?_ ?_) ?_
         · rw [show ((st.length : Nat) : Int) = ((st.length + 1 : Nat) : Int) - 1 by omega]; exact hg
         · omega
         · simp only [List.length_cons]; omega
         · simp only [List.length_cons]; omega
         · simp [runGo]
      · rw [if_neg hd] at hg; cases hg
    · simp only [wGo] at hg
      rw [if_neg hI, if_neg hO] at hg; cases hg
theorem spec_run_ev (l : List Int) (w : ByteArray) (hl : l.length ≤ 7) (hg : wGo (bytesOf w) 0 = true) (hw : w.size = 2 * l.length) : Ev (fun k => spec_l2Run.f k l w) (runL l (bytesOf w)) := by
 unfold spec_l2Run.f
 exact spec_run_l l w hl (by omega) (bytesOf w) [] l [] [] [] rfl rfl (by simpa using hg) (by rw [bytes_len]; simp; omega) (by simp) (by simp)

theorem impl_run_l (w : ByteArray) (hw : w.size ≤ 14) : ∀ (suf pre rem st out : List Int), bytesOf w = pre ++ suf → wGo suf (st.length : Int) = true → suf.length = 2 * rem.length + st.length → out.length + st.length + rem.length ≤ 7 → Ev (fun k => impl_runWord.l0 k rem w st.reverse out.reverse (w.size : Int) (pre.length : Int)) (runGo suf rem st out) := by
 intro suf
 induction suf with
 | nil =>
  intro pre rem st out e hg h2 h3
  have h := size_end e
  refine ev_succ ?_
  simp only [impl_runWord.l0.eq_2]
  exact ev_neg (by omega) (ev_now (by simp [runGo]))
 | cons c suf ih =>
  intro pre rem st out e hg h2 h3
  have h := size_mid e
  simp only [List.length_cons] at h2
  refine ev_succ ?_
  simp only [impl_runWord.l0.eq_2, bt_mid e]
  rw [wrap_snoc (pre := pre) (c := c) (by omega)]
  refine ev_pos (by omega) (ev_pos (by omega) (ev_pos (by omega) ?_))
  by_cases hI : c = 73
  · subst hI
    rw [wGo_in] at hg
    have hlen := wGo_len _ _ (by omega) hg
    cases rem with
    | nil => simp only [List.length_nil] at h2; omega
    | cons x rem =>
     simp only [List.length_cons] at h2 h3
     rw [show rd (x :: rem) 0 = x from rfl, show st.reverse ++ [x] = (x :: st).reverse by simp, show (x :: rem).drop 1 = rem from rfl]
     refine ev_pos rfl (ev_pos (by simp only [List.length_cons]; omega) (ev_pos (by simp; omega) (ev_pos (by simp only [List.length_cons]; omega) ?_)))
     refine ev_eq (ih _ rem (x :: st) out (snoc_mid e) ?_ ?_ ?_) ?_
     · simpa using hg
     · simp only [List.length_cons]; omega
     · simp only [List.length_cons]; omega
     · simp [runGo]
  · by_cases hO : c = 79
    · subst hO
      rw [wGo_out] at hg
      by_cases hd : (st.length : Int) > 0
      · rw [if_pos hd] at hg
        cases st with
        | nil => simp at hd
        | cons x st =>
         simp only [List.length_cons] at hg h2 h3
         have hlen : ((x :: st).reverse.length : Int) = st.length + 1 := by simp
         rw [wrap_of (x := ((x :: st).reverse.length : Int) - 1) (by omega) (by omega), top_rev, pop_rev, show out.reverse ++ [x] = (x :: out).reverse by simp]
         refine ev_neg hI (ev_pos (by omega) (ev_pos (by omega) (ev_pos (by simp; omega) (ev_pos (by omega) ?_))))
         refine ev_eq (ih _ rem st (x :: out) (snoc_mid e) ?_ ?_ ?_) ?_
         · rw [show ((st.length : Nat) : Int) = ((st.length + 1 : Nat) : Int) - 1 by omega]; exact hg
         · omega
         · simp only [List.length_cons]; omega
         · simp [runGo]
      · rw [if_neg hd] at hg; cases hg
    · simp only [wGo] at hg
      rw [if_neg hI, if_neg hO] at hg; cases hg
theorem impl_run_ev (l : List Int) (w : ByteArray) (hl : l.length ≤ 7) (hg : wGo (bytesOf w) 0 = true) (hw : w.size = 2 * l.length) : Ev (fun k => impl_runWord.f k l w) (runL l (bytesOf w)) := by
 unfold impl_runWord.f
 exact impl_run_l w (by omega) (bytesOf w) [] l [] [] rfl (by simpa using hg) (by rw [bytes_len]; simp; omega) (by simp; omega)

/-! ### l2Words, words -/
theorem spec_words_r : ∀ (r a b n : Nat) (so : List Int), a + b = r → a ≤ b → so.length + r = 2 * n → n ≤ 7 → Ev (fun k => spec_l2Words.f k (strOfNums so) ((b - a : Nat) : Int) (n : Int)) ((wordsC r a b).map (fun w => strOfNums (so ++ w))) := by
 intro r
 induction r with
 | zero =>
  intro a b n so h1 h2 h3 h4
  refine ev_succ ?_
  simp only [spec_l2Words.f.eq_2]
  refine ev_let ?_
  rw [wrap_of (by omega) (by omega), str_size]
  exact ev_pos (by omega) (ev_now (by simp [wordsC]))
 | succ r ih =>
  intro a b n so h1 h2 h3 h4
  refine ev_succ ?_
  simp only [spec_l2Words.f.eq_2]
  refine ev_let ?_
  rw [wrap_of (x := 2 * (n : Int)) (by omega) (by omega), str_size, wrap_of (x := 2 * (n : Int) - (so.length : Int)) (by omega) (by omega)]
  have hl1 := wordsC_length r (a - 1) b
  have hl2 := wordsC_length r a (b - 1)
  have hp : (2 : Nat) ^ r ≤ 2 ^ 14 := Nat.pow_le_pow_right (by omega) (by omega)
  have h14 : (2 : Nat) ^ 14 = 16384 := by decide
  refine ev_neg (by omega) ?_
  have hO : b > a → Ev (fun k => spec_l2Words.f k (strOfNums so ++ (⟨#[79]⟩ : ByteArray)) (wrap64 (((b - a : Nat) : Int) - 1)) (n : Int)) ((wordsC r a (b - 1)).map (fun w => strOfNums (so ++ 79 :: w))) := by
   intro hba
   rw [str_snocO, wrap_of (by omega) (by omega), show ((b - a : Nat) : Int) - 1 = ((b - 1 - a : Nat) : Int) by omega]
   refine ev_eq (ih a (b - 1) n (so ++ [79]) (by omega) (by omega) (by simp; omega) h4) ?_
   simp
  by_cases ha : a > 0
  · refine ev_pos (by omega) (ev_pos (by omega) ?_)
    have hI : Ev (fun k => spec_l2Words.f k (strOfNums so ++ (⟨#[73]⟩ : ByteArray)) (wrap64 (((b - a : Nat) : Int) + 1)) (n : Int)) ((wordsC r (a - 1) b).map (fun w => strOfNums (so ++ 73 :: w))) := by
     rw [str_snocI, wrap_of (by omega) (by omega), show ((b - a : Nat) : Int) + 1 = ((b - (a - 1) : Nat) : Int) by omega]
     refine ev_eq (ih (a - 1) b n (so ++ [73]) (by omega) (by omega) (by simp; omega) h4) ?_
     simp
    refine ev_bind hI (ev_pos (by simp; omega) (ev_let ?_))
    by_cases hb : b > a
    · refine ev_pos (by omega) (ev_bind (hO hb) (ev_pos (by simp; omega) (ev_now ?_)))
      simp [wordsC, ha, hb, List.map_map, Function.comp_def]
    · refine ev_neg (by omega) (ev_now ?_)
      simp [wordsC, ha, hb, List.map_map, Function.comp_def]
  · refine ev_neg (by omega) ?_
    by_cases hb : b > a
    · refine ev_pos (by omega) (ev_pos (by omega) (ev_bind (hO hb) (ev_pos (by simp; omega) (ev_now ?_))))
      simp [wordsC, ha, hb, List.map_map, Function.comp_def]
    · omega
theorem impl_words_r : ∀ (r a b : Nat) (so : List Int) (list : List ByteArray), a + b = r → a ≤ b → so.length + r ≤ 14 → list.length + 2 ^ r ≤ 1048576 → Ev (fun k => impl_words.f k (strOfNums so) (a : Int) (b : Int) list) (list ++ (wordsC r a b).map (fun w => strOfNums (so ++ w))) := by
 intro r
 induction r with
 | zero =>
  intro a b so list h1 h2 h3 h4
  refine ev_succ ?_
  simp only [impl_words.f.eq_2]
  refine ev_pos (by omega) (ev_succ ?_)
  simp only [impl_words.j0.eq_2]
  exact ev_pos (by simp; omega) (ev_pos (by omega) (ev_now (by simp [wordsC])))
 | succ r ih =>
  intro a b so list h1 h2 h3 h4
  have hp : (2 : Nat) ^ (r + 1) = 2 ^ r + 2 ^ r := by rw [Nat.pow_succ]; omega
  have hl1 := wordsC_length r (a - 1) b
  have key : ∀ q : Bool, q = false → Ev (fun k => impl_words.j0 k (strOfNums so) (a : Int) (b : Int) list q) (list ++ (wordsC (r + 1) a b).map (fun w => strOfNums (so ++ w))) := by
   intro q hq
   refine ev_succ ?_
   simp only [impl_words.j0.eq_2]
   refine ev_neg (by simp [hq]) ?_
   rw [str_size]
   have hO : b > a → ∀ l2 : List ByteArray, l2.length + 2 ^ r ≤ 1048576 → Ev (fun k => impl_words.f k (strOfNums so ++ (⟨#[79]⟩ : ByteArray)) (a : Int) (wrap64 ((b : Int) - 1)) l2) (l2 ++ (wordsC r a (b - 1)).map (fun w => strOfNums (so ++ 79 :: w))) := by
    intro hba l2 hl2
    rw [str_snocO, wrap_of (by omega) (by omega), show (b : Int) - 1 = ((b - 1 : Nat) : Int) by omega]
    refine ev_eq (ih a (b - 1) (so ++ [79]) l2 (by omega) (by omega) (by simp; omega) hl2) ?_
    simp
   by_cases ha : a > 0
   · refine ev_pos (by omega) (ev_pos (by omega) ?_)
     have hI : Ev (fun k => impl_words.f k (strOfNums so ++ (⟨#[73]⟩ : ByteArray)) (wrap64 ((a : Int) - 1)) (b : Int) list) (list ++ (wordsC r (a - 1) b).map (fun w => strOfNums (so ++ 73 :: w))) := by
      rw [str_snocI, wrap_of (by omega) (by omega), show (a : Int) - 1 = ((a - 1 : Nat) : Int) by omega]
      refine ev_eq (ih (a - 1) b (so ++ [73]) list (by omega) (by omega) (by simp; omega) (by omega)) ?_
      simp
     refine ev_bind hI ?_
     by_cases hb : b > a
     · refine ev_pos (by omega) (ev_bind (hO hb _ (by simp; omega)) (ev_now ?_))
       simp [wordsC, ha, hb, List.map_map, Function.comp_def]
     · refine ev_neg (by omega) (ev_now ?_)
       simp [wordsC, ha, hb, List.map_map, Function.comp_def]
   · refine ev_neg (by omega) ?_
     by_cases hb : b > a
     · refine ev_pos (by omega) (ev_pos (by omega) (ev_bind (hO hb _ (by omega)) (ev_now ?_)))
       simp [wordsC, ha, hb, List.map_map, Function.comp_def]
     · omega
  refine ev_succ ?_
  simp only [impl_words.f.eq_2]
  by_cases ha : (a : Int) = 0
  · exact ev_pos ha (key _ (by simp; omega))
  · exact ev_neg ha (key _ rfl)

/-! ### OutputsOf -/
theorem wordsC_mem : ∀ (r a b : Nat) (w : List Int), a + b = r → a ≤ b → w ∈ wordsC r a b → w.length = r ∧ wGo w ((b - a : Nat) : Int) = true ∧ ∀ c ∈ w, 0 ≤ c ∧ c ≤ 255 := by
 intro r
 induction r with
 | zero =>
  intro a b w h1 h2 h
  simp [wordsC] at h
  subst h
  refine ⟨rfl, ?_, fun _ h => by cases h⟩
  rw [show b - a = 0 by omega]; rfl
 | succ r ih =>
  intro a b w h1 h2 h
  simp only [wordsC, List.mem_append] at h
  rcases h with h | h
  · by_cases ha : a > 0
    · rw [if_pos ha] at h
      obtain ⟨v, hv, rfl⟩ := List.mem_map.1 h
      obtain ⟨q1, q2, q3⟩ := ih (a - 1) b v (by omega) (by omega) hv
      refine ⟨by simp [q1], ?_, fun c hc => ?_⟩
      · rw [wGo_in, show ((b - a : Nat) : Int) + 1 = ((b - (a - 1) : Nat) : Int) by omega]; exact q2
      · rcases List.mem_cons.1 hc with rfl | hc
        · omega
        · exact q3 c hc
    · rw [if_neg ha] at h; cases h
  · by_cases hb : b > a
    · rw [if_pos hb] at h
      obtain ⟨v, hv, rfl⟩ := List.mem_map.1 h
      obtain ⟨q1, q2, q3⟩ := ih a (b - 1) v (by omega) (by omega) hv
      refine ⟨by simp [q1], ?_, fun c hc => ?_⟩
      · rw [wGo_out, if_pos (by omega), show ((b - a : Nat) : Int) - 1 = ((b - 1 - a : Nat) : Int) by omega]; exact q2
      · rcases List.mem_cons.1 hc with rfl | hc
        · omega
        · exact q3 c hc
    · rw [if_neg hb] at h; cases h
theorem bytes_strOf {w : List Int} (h : ∀ c ∈ w, 0 ≤ c ∧ c ≤ 255) : bytesOf (strOfNums w) = w := by
 unfold bytesOf strOfNums
 simp only [List.map_map]
 have : ∀ c ∈ w, ((fun b : UInt8 => (b.toNat : Int)) ∘ fun x : Int => UInt8.ofNat x.toNat) c = id c := by
  intro c hc
  have := h c hc
  simp only [Function.comp, id]
  rw [UInt8.toNat_ofNat']
  omega
 rw [List.map_congr_left this, List.map_id]
theorem runGo_len : ∀ (suf rem st out : List Int), wGo suf (st.length : Int) = true → suf.length = 2 * rem.length + st.length → (runGo suf rem st out).length = out.length + st.length + rem.length := by
 intro suf
 induction suf with
 | nil =>
  intro rem st out hg h2
  simp only [List.length_nil] at h2
  simp [runGo]; omega
 | cons c suf ih =>
  intro rem st out hg h2
  simp only [List.length_cons] at h2
  by_cases hI : c = 73
  · subst hI
    rw [wGo_in] at hg
    have hlen := wGo_len _ _ (by omega) hg
    cases rem with
    | nil => simp only [List.length_nil] at h2; omega
    | cons x rem =>
     simp only [List.length_cons] at h2
     have := ih rem (x :: st) out (by simpa using hg) (by simp only [List.length_cons]; omega)
     simp only [runGo, if_true, List.tail_cons, List.headD_cons]
     rw [this]; simp only [List.length_cons]; omega
  · by_cases hO : c = 79
    · subst hO
      rw [wGo_out] at hg
      by_cases hd : (st.length : Int) > 0
      · rw [if_pos hd] at hg
        cases st with
        | nil => simp at hd
        | cons x st =>
         simp only [List.length_cons] at hg h2
         have := ih rem st (x :: out) (by rw [show ((st.length : Nat) : Int) = ((st.length + 1 : Nat) : Int) - 1 by omega]; exact hg) (by omega)
         simp only [runGo, if_neg hI, List.tail_cons, List.headD_cons]
         rw [this]; simp only [List.length_cons]; omega
      · rw [if_neg hd] at hg; cases hg
    · simp only [wGo] at hg
      rw [if_neg hI, if_neg hO] at hg; cases hg
def wsL (n : Nat) : List (List Int) := wordsC (n + n) n n
def outL (o : List Int) : List (List Int) := (wsL o.length).map (runL o)
theorem wsL_mem {n : Nat} {w : List Int} (h : w ∈ wsL n) : w.length = 2 * n ∧ wGo w 0 = true ∧ ∀ c ∈ w, 0 ≤ c ∧ c ≤ 255 := by
 obtain ⟨h1, h2, h3⟩ := wordsC_mem (n + n) n n w rfl (Nat.le_refl _) h
 exact ⟨by omega, by rw [show n - n = 0 by omega] at h2; exact h2, h3⟩
theorem run_len {o w : List Int} (h : w ∈ wsL o.length) : (runL o w).length = o.length := by
 obtain ⟨h1, h2, _⟩ := wsL_mem h
 unfold runL
 rw [runGo_len w o [] [] (by simpa using h2) (by simp; omega)]; simp
theorem wsL_len {n : Nat} (h : n ≤ 7) : (wsL n).length ≤ 16384 := by
 have h1 := wordsC_length (n + n) n n
 have h2 : (2 : Nat) ^ (n + n) ≤ 2 ^ 14 := Nat.pow_le_pow_right (by omega) (by omega)
 have h3 : (2 : Nat) ^ 14 = 16384 := by decide
 unfold wsL; omega
theorem outL_len {o : List Int} : ∀ y ∈ outL o, y.length = o.length := by
 intro y hy
 obtain ⟨w, hw, rfl⟩ := List.mem_map.1 hy
 exact run_len hw
theorem impl_outputs_l (o : List Int) (ho : o.length ≤ 7) (R : List (List Int)) : ∀ (suf pre : List (List Int)), wsL o.length = pre ++ suf → impl_tidied.f (outL o) = some R → Ev (fun k => impl_outputs.l0 k o (pre.map (runL o)) ((wsL o.length).map strOfNums) (((wsL o.length).map strOfNums).length : Int) (pre.length : Int)) R := by
 intro suf
 induction suf with
 | nil =>
  intro pre e ht
  have h : (((wsL o.length).map strOfNums).length : Int) = pre.length := by rw [List.length_map]; exact len_end e
  refine ev_succ ?_
  simp only [impl_outputs.l0.eq_2]
  refine ev_neg (by omega) (ev_bind (ev_const (r := R) ?_) (ev_now rfl))
  rw [← ht]; unfold outL; rw [e]; simp
 | cons w suf ih =>
  intro pre e ht
  have h : (((wsL o.length).map strOfNums).length : Int) = pre.length + 1 + suf.length := by rw [List.length_map]; exact len_mid e
  have hl := wsL_len ho
  have hpl : pre.length ≤ 16384 := by have := congrArg List.length e; simp at this; omega
  obtain ⟨hw1, hw2, hw3⟩ := wsL_mem (n := o.length) (w := w) (by rw [e]; simp)
  have hrd : rdOf ByteArray.empty ((wsL o.length).map strOfNums) (pre.length : Int) = strOfNums w := by rw [e]; simp [rdOf]
  have hsz : (strOfNums w).size = 2 * o.length := by rw [← bytes_len, bytes_strOf hw3]; exact hw1
  have hrun := impl_run_ev o (strOfNums w) ho (by rw [bytes_strOf hw3]; exact hw2) hsz
  rw [bytes_strOf hw3] at hrun
  refine ev_succ ?_
  simp only [impl_outputs.l0.eq_2, hrd]
  rw [wrap_snoc (pre := pre) (c := w) (by omega)]
  refine ev_pos (by omega) (ev_pos (by omega) (ev_pos (by omega) (ev_bind hrun (ev_pos (by simp; omega) ?_))))
  have := ih (pre ++ [w]) (snoc_mid e) ht
  rw [List.map_append] at this
  exact this
theorem outL_tidied {o : List Int} (ho : o.length ≤ 7) : impl_tidied.f (outL o) = some (tidyG (outL o)) := by
 unfold impl_tidied.f
 have hl := wsL_len ho
 rw [if_pos ⟨by unfold outL; rw [List.length_map]; omega, fun x hx => by rw [outL_len x hx]; omega, fun x hx y hy => by rw [outL_len x hx, outL_len y hy]⟩]
theorem impl_outputs_ev (o : List Int) (h : isOrd o = true) : Ev (fun k => impl_outputs.f k o) (tidyG (outL o)) := by
 unfold impl_outputs.f
 have hl := ord_len h
 have h2 : (2 : Nat) ^ (o.length + o.length) ≤ 2 ^ 14 := Nat.pow_le_pow_right (by omega) (by omega)
 have h3 : (2 : Nat) ^ 14 = 16384 := by decide
 have hw := impl_words_r (o.length + o.length) o.length o.length [] [] rfl (Nat.le_refl _) (by simp; omega) (by simp; omega)
 rw [str_nil] at hw
 refine ev_bind (a := (wsL o.length).map strOfNums) (by simpa [wsL] using hw) ?_
 exact impl_outputs_l o hl.2 _ (wsL o.length) [] rfl (outL_tidied hl.2)
def opR (o : List Int) : List (List Int) × Bool := onOrd o [] (tidyG (outL o))
theorem op_impl_ev (o : List Int) (hl : o.length ≤ 140737488351232) : Ev (fun k => impl_OutputsOf.f k o) (opR o) := by
 unfold impl_OutputsOf.f opR
 by_cases h1 : isOrd o = true
 · rw [onOrd_pos h1]
   exact ev_bind (impl_order_ev o hl) (ev_pos h1 (ev_bind (impl_outputs_ev o h1) (ev_now rfl)))
 · rw [onOrd_neg h1]
   exact ev_bind (impl_order_ev o hl) (ev_neg h1 (ev_now rfl))
theorem putAll_bound : ∀ (rows acc : List (List Int)), (rows.foldl putL acc).length ≤ acc.length + rows.length := by
 intro rows
 induction rows with
 | nil => intro acc; simp
 | cons c s ih =>
  intro acc
  rw [List.foldl_cons]
  have := ih (putL acc c)
  have := putL_len acc c
  simp only [List.length_cons]; omega
theorem tidy_bound (rows : List (List Int)) : (tidyG rows).length ≤ rows.length := by
 have := putAll_bound rows []
 rw [putAll_tidy] at this
 simpa using this

theorem spec_outputs_l (o : List Int) (ho : o.length ≤ 7) : ∀ (suf pre : List (List Int)), wsL o.length = pre ++ suf → Ev (fun k => spec_OutputsOf.l0 k o ((pre.map (runL o)).foldl putL []) ((wsL o.length).map strOfNums) (pre.length : Int)) (tidyG (outL o), true) := by
 intro suf
 have hl := wsL_len ho
 induction suf with
 | nil =>
  intro pre e
  have h : (((wsL o.length).map strOfNums).length : Int) = pre.length := by rw [List.length_map]; exact len_end e
  have hpl : pre.length ≤ 16384 := by have := congrArg List.length e; simp at this; omega
  have hb := putAll_bound (pre.map (runL o)) []
  rw [List.length_map] at hb
  simp only [List.length_nil] at hb
  refine ev_succ ?_
  simp only [spec_OutputsOf.l0.eq_2]
  refine ev_neg (by omega) (ev_let (ev_pos (by simp; omega) (ev_now ?_)))
  rw [List.nil_append, putAll_tidy]
  unfold outL; rw [e]; simp
 | cons w suf ih =>
  intro pre e
  have h : (((wsL o.length).map strOfNums).length : Int) = pre.length + 1 + suf.length := by rw [List.length_map]; exact len_mid e
  have hpl : pre.length ≤ 16384 := by have := congrArg List.length e; simp at this; omega
  obtain ⟨hw1, hw2, hw3⟩ := wsL_mem (n := o.length) (w := w) (by rw [e]; simp)
  have hrd : rdOf ByteArray.empty ((wsL o.length).map strOfNums) (pre.length : Int) = strOfNums w := by rw [e]; simp [rdOf]
  have hsz : (strOfNums w).size = 2 * o.length := by rw [← bytes_len, bytes_strOf hw3]; exact hw1
  have hrun := spec_run_ev o (strOfNums w) ho (by rw [bytes_strOf hw3]; exact hw2) hsz
  rw [bytes_strOf hw3] at hrun
  have hb := putAll_bound (pre.map (runL o)) []
  rw [List.length_map] at hb
  simp only [List.length_nil] at hb
  have hmem : ∀ y ∈ (pre.map (runL o)).foldl putL [], y.length = o.length := by
   intro y hy
   rcases ((putAll_gen (pre.map (runL o)) [] (by simp [Strict])).2 y).1 hy with hy | hy
   · cases hy
   · obtain ⟨v, hv, rfl⟩ := List.mem_map.1 hy
     exact run_len (by rw [e]; simp [hv])
  refine ev_succ ?_
  simp only [spec_OutputsOf.l0.eq_2, hrd]
  rw [wrap_snoc (pre := pre) (c := w) (by omega)]
  refine ev_pos (by omega) (ev_pos (by omega) (ev_bind hrun (ev_bind (put_ev o.length (by omega) _ (runL o w) (by omega) (run_len (by rw [e]; simp)) hmem) ?_)))
  have := ih (pre ++ [w]) (snoc_mid e)
  rw [List.map_append, List.foldl_append] at this
  exact this
theorem op_spec_ev (o : List Int) (hl : o.length ≤ 140737488351232) : Ev (fun k => spec_OutputsOf.f k o) (opR o) := by
 unfold spec_OutputsOf.f opR
 refine ev_let (ev_bind (spec_order_ev o hl) ?_)
 by_cases h1 : isOrd o = true
 · rw [onOrd_pos h1]
   have hl := ord_len h1
   have hw := spec_words_r (o.length + o.length) o.length o.length o.length [] rfl (Nat.le_refl _) (by simp; omega) (by omega)
   rw [str_nil, show o.length - o.length = 0 by omega] at hw
   refine ev_pos h1 (ev_bind (a := (wsL o.length).map strOfNums) (by simpa [wsL] using hw) ?_)
   exact spec_outputs_l o hl.2 (wsL o.length) [] rfl
 · rw [onOrd_neg h1]
   exact ev_neg h1 (ev_now rfl)
theorem opR_ok (o : List Int) : (opR o).1.length ≤ 1048576 ∧ (opR o).1.all (fun xs => decide (xs.length ≤ 1048576)) = true := by
 by_cases h1 : isOrd o = true
 · have hq : opR o = (tidyG (outL o), true) := by unfold opR; rw [onOrd_pos h1]
   have h7 := (ord_len h1).2
   have hb := tidy_bound (outL o)
   have hl := wsL_len h7
   have ho : (outL o).length = (wsL o.length).length := by unfold outL; simp
   rw [hq]
   refine ⟨by simp only; omega, List.all_eq_true.2 (fun xs hx => ?_)⟩
   have := outL_len xs ((tidyG_mem _ _).1 hx)
   exact decide_eq_true (by omega)
 · have hq : opR o = ([], false) := by unfold opR; rw [onOrd_neg h1]
   rw [hq]; simp

/-! ### Is it a word? How deep? -/
theorem spec_word_l (w : ByteArray) (hw : w.size ≤ 140737488351232) : ∀ (suf pre : List Int) (d : Int), bytesOf w = pre ++ suf → 0 ≤ d → d ≤ pre.length → Ev (fun k => spec_l2Word.l0 k w d (pre.length : Int)) (wGo suf d) := by
 intro suf
 induction suf with
 | nil =>
  intro pre d e h0 h1
  have h := size_end e
  refine ev_succ ?_
  simp only [spec_l2Word.l0.eq_2]
  exact ev_neg (by omega) (ev_now rfl)
 | cons c suf ih =>
  intro pre d e h0 h1
  have h := size_mid e
  refine ev_succ ?_
  simp only [spec_l2Word.l0.eq_2, bt_mid e]
  refine ev_pos (by omega) (ev_pos (by omega) ?_)
  by_cases hI : c = 73
  · refine ev_pos hI ?_
    rw [wrap_snoc (pre := pre) (c := c) (by omega), wrap_of (x := d + 1) (by omega) (by omega)]
    refine ev_eq (ih _ (d + 1) (snoc_mid e) (by omega) (by simp; omega)) ?_
    simp only [wGo]; rw [if_pos hI]
  · refine ev_neg hI ?_
    by_cases hO : c = 79
    · refine ev_pos hO ?_
      by_cases hd : d > 0
      · refine ev_pos hd ?_
        rw [wrap_snoc (pre := pre) (c := c) (by omega), wrap_of (x := d - 1) (by omega) (by omega)]
        refine ev_eq (ih _ (d - 1) (snoc_mid e) (by omega) (by simp; omega)) ?_
        simp only [wGo]; rw [if_neg hI, if_pos hO, if_pos hd]
      · refine ev_neg hd (ev_now ?_)
        simp only [wGo]; rw [if_neg hI, if_pos hO, if_neg hd]
    · refine ev_neg hO (ev_now ?_)
      simp only [wGo]; rw [if_neg hI, if_neg hO]
theorem spec_word_ev (w : ByteArray) (n : Int) (hw : w.size ≤ 140737488351232) (h0 : 0 ≤ n) (h1 : n ≤ 140737488351232) : Ev (fun k => spec_l2Word.f k w n) (decide ((w.size : Int) = 2 * n) && wGo (bytesOf w) 0) := by
 unfold spec_l2Word.f
 rw [wrap_of (by omega) (by omega)]
 by_cases h : (w.size : Int) = 2 * n
 · refine ev_pos h (ev_eq (spec_word_l w hw (bytesOf w) [] 0 rfl (by omega) (by simp)) ?_)
   simp [h]
 · exact ev_neg h (ev_now (by simp [h]))

theorem spec_any_ev (w : ByteArray) (hw : w.size ≤ 140737488351232) : Ev (fun k => spec_l2Any.f k w) (isWd (bytesOf w)) := by
 unfold spec_l2Any.f
 refine ev_bind (in_ev _ _ _) ?_
 have hb := bytes_len w
 by_cases h : 2 ≤ w.size ∧ w.size ≤ 14
 · refine ev_pos (by simp; omega) ?_
   rw [wrap_of (by omega) (by omega)]
   refine ev_bind (spec_word_ev w ((w.size : Int) / 2) hw (by omega) (by omega)) (ev_now ?_)
   unfold isWd
   rw [hb]
   by_cases hg : wGo (bytesOf w) 0 = true
   · have := wGo_even _ _ hg
     rw [hb] at this
     have e : (w.size : Int) = 2 * ((w.size : Int) / 2) := by omega
     simp [hg, h.1, h.2, ← e]
   · simp [hg]
 · refine ev_neg (by simp; omega) (ev_now ?_)
   unfold isWd
   rw [hb]
   by_cases h2 : 2 ≤ w.size
   · have : ¬ w.size ≤ 14 := fun h3 => h ⟨h2, h3⟩
     simp [this]
   · simp [h2]

theorem isSize_ev (n : Int) : Ev (fun _ => impl_isSize.f n) (decide (1 ≤ n) && decide (n ≤ 7)) := by
 unfold impl_isSize.f
 by_cases h : n ≥ 1
 · refine ev_pos h (ev_now ?_)
   have : decide (1 ≤ n) = true := decide_eq_true h
   rw [this]; rfl
 · refine ev_neg h (ev_now ?_)
   have : decide (1 ≤ n) = false := decide_eq_false (by omega)
   rw [this]; rfl

theorem depth_l (w : ByteArray) (hw : w.size ≤ 140737488351232) : ∀ (suf pre : List Int) (d m : Int), bytesOf w = pre ++ suf → 0 ≤ d → d ≤ pre.length → Ev (fun k => impl_depthOf.l0 k w d m (w.size : Int) (pre.length : Int)) (if wGo suf d = true ∧ 2 ≤ w.size ∧ w.size ≤ 15 then (wDeep suf d m, true) else (0, false)) := by
 intro suf
 induction suf with
 | nil =>
  intro pre d m e h0 h1
  have h := size_end e
  refine ev_succ ?_
  simp only [impl_depthOf.l0.eq_2]
  refine ev_neg (by omega) ?_
  by_cases hd : d = 0
  · refine ev_pos hd ?_
    rw [wrap_of (by omega) (by omega)]
    refine ev_bind (isSize_ev _) ?_
    by_cases hs : 2 ≤ w.size ∧ w.size ≤ 15
    · refine ev_pos (by simp; omega) (ev_now ?_)
      rw [if_pos ⟨by simp [wGo, hd], hs.1, hs.2⟩]; rfl
    · refine ev_neg (by simp; omega) (ev_now ?_)
      rw [if_neg (fun h => hs h.2)]
  · refine ev_neg hd (ev_now ?_)
    rw [if_neg (fun h => hd (by simpa [wGo] using h.1))]
 | cons c suf ih =>
  intro pre d m e h0 h1
  have h := size_mid e
  refine ev_succ ?_
  simp only [impl_depthOf.l0.eq_2, bt_mid e]
  refine ev_pos (by omega) (ev_pos (by omega) (ev_pos (by omega) ?_))
  rw [wrap_snoc (pre := pre) (c := c) (by omega), wrap_of (x := d + 1) (by omega) (by omega), wrap_of (x := d - 1) (by omega) (by omega)]
  by_cases hI : c = 73
  · refine ev_pos hI (ev_neg (by omega) ?_)
    refine ev_eq (ih _ (d + 1) _ (snoc_mid e) (by omega) (by simp; omega)) ?_
    subst hI; rw [wGo_in, wDeep_in]
  · refine ev_neg hI ?_
    by_cases hO : c = 79
    · refine ev_pos hO ?_
      by_cases hd : d > 0
      · refine ev_neg (by omega) ?_
        refine ev_eq (ih _ (d - 1) _ (snoc_mid e) (by omega) (by simp; omega)) ?_
        subst hO; rw [wGo_out, wDeep_out, if_pos hd]
      · refine ev_pos (by omega) (ev_now ?_)
        rw [if_neg]; simp only [wGo]; rw [if_neg hI, if_pos hO, if_neg hd]; simp
    · refine ev_neg hO (ev_now ?_)
      rw [if_neg]; simp only [wGo]; rw [if_neg hI, if_neg hO]; simp
theorem depth_ev (w : ByteArray) (hw : w.size ≤ 140737488351232) : Ev (fun k => impl_depthOf.f k w) (if isWd (bytesOf w) = true then (wDeep (bytesOf w) 0 0, true) else (0, false)) := by
 unfold impl_depthOf.f
 refine ev_eq (depth_l w hw (bytesOf w) [] 0 0 rfl (by omega) (by simp)) ?_
 have hb := bytes_len w
 by_cases h : isWd (bytesOf w) = true
 · have h' := (isWd_iff _).1 h
   rw [hb] at h'
   rw [if_pos h, if_pos ⟨h'.2, h'.1.1, by omega⟩]
 · rw [if_neg h, if_neg]
   intro ⟨h1, h2, h3⟩
   have := wGo_even _ _ h1
   rw [hb] at this
   exact h ((isWd_iff _).2 ⟨by rw [hb]; omega, h1⟩)

theorem isWord_ev (w : ByteArray) (hw : w.size ≤ 140737488351232) : Ev (fun k => impl_isWord.f k w) (isWd (bytesOf w)) := by
 unfold impl_isWord.f
 refine ev_bind (depth_ev w hw) (ev_now ?_)
 by_cases h : isWd (bytesOf w) = true
 · rw [if_pos h, h]
 · rw [if_neg h]; simpa using h

theorem spec_runword_ev (l : List Int) (w : ByteArray) (hl : l.length ≤ 140737488351232) (hw : w.size ≤ 140737488351232) : Ev (fun k => spec_RunWord.f k l w) (runR l w) := by
 unfold spec_RunWord.f runR
 refine ev_bind (spec_order_ev l hl) ?_
 have hb := bytes_len w
 by_cases ho : isOrd l = true
 · have h7 := ord_len ho
   refine ev_pos ho (ev_bind (spec_word_ev w (l.length : Int) hw (by omega) (by omega)) ?_)
   by_cases h : w.size = 2 * l.length ∧ wGo (bytesOf w) 0 = true
   · refine ev_pos (by simp [h.2]; omega) (ev_bind (spec_run_ev l w h7.2 h.2 h.1) (ev_now ?_))
     rw [if_pos ⟨ho, (isWd_iff _).2 ⟨by rw [hb]; omega, h.2⟩, h.1⟩]
   · refine ev_neg (fun h' => h ?_) (ev_now ?_)
     · simp at h'; exact ⟨by omega, h'.2⟩
     · rw [if_neg (fun h' => h ⟨h'.2.2, ((isWd_iff _).1 h'.2.1).2⟩)]
 · refine ev_neg ho (ev_now ?_)
   rw [if_neg (fun h' => ho h'.1)]
theorem impl_runword_ev (l : List Int) (w : ByteArray) (hl : l.length ≤ 140737488351232) (hw : w.size ≤ 140737488351232) : Ev (fun k => impl_RunWord.f k l w) (runR l w) := by
 unfold impl_RunWord.f runR
 refine ev_bind (impl_order_ev l hl) ?_
 by_cases ho : isOrd l = true
 · have h7 := ord_len ho
   refine ev_pos ho (ev_bind (isWord_ev w hw) ?_)
   by_cases hg : isWd (bytesOf w) = true
   · refine ev_pos hg ?_
     rw [wrap_of (by omega) (by omega)]
     by_cases h : w.size = 2 * l.length
     · refine ev_pos (by omega) (ev_bind (impl_run_ev l w h7.2 ((isWd_iff _).1 hg).2 h) (ev_now ?_))
       rw [if_pos ⟨ho, hg, h⟩]
     · refine ev_neg (by omega) (ev_now ?_)
       rw [if_neg (fun h' => h h'.2.2)]
   · refine ev_neg hg (ev_now ?_)
     rw [if_neg (fun h' => hg h'.2.1)]
 · refine ev_neg ho (ev_now ?_)
   rw [if_neg (fun h' => ho h'.1)]
theorem runR_length (l : List Int) (w : ByteArray) : (runR l w).1.length ≤ 14 := by
 unfold runR
 split
 · rename_i h
   have := runGo_length (bytesOf w) l [] []
   have h7 := ord_len h.1
   rw [bytes_len] at this
   simp only [runL, List.length_nil] at this ⊢; omega
 · simp

theorem areOrders_ev (a b : List Int) (ha : a.length ≤ 140737488351232) (hb : b.length ≤ 140737488351232) : Ev (fun k => impl_areOrders.f k a b) (isOrd a && isOrd b && (a.length == b.length)) := by
 unfold impl_areOrders.f
 refine ev_bind (impl_order_ev a ha) ?_
 by_cases h1 : isOrd a = true
 · refine ev_pos h1 (ev_bind (impl_order_ev b hb) ?_)
   by_cases h2 : isOrd b = true
   · refine ev_pos h2 (ev_now ?_)
     rw [h1, h2]
     by_cases h : a.length = b.length
     · simp [h]
     · have h' : ((a.length : Int) == (b.length : Int)) = false := by simpa using fun e : (a.length : Int) = (b.length : Int) => h (by omega)
       have h'' : (a.length == b.length) = false := by simpa using h
       rw [h', h'']; rfl
   · refine ev_neg h2 (ev_now (by simp [h2]))
 · exact ev_neg h1 (ev_now (by simp [h1]))

/-! ### the word by which numbers come out of others -/
theorem toGo_nil (m : Nat) (o s out : List Int) : toGo m [] o s out = (out, true) := by cases m <;> rfl
theorem toGo_pop (m : Nat) (n : Int) (t o s out : List Int) : toGo (m + 1) (n :: t) o (n :: s) out = toGo m t o s (out ++ [79]) := by
 simp [toGo]
theorem toGo_push0 (m : Nat) (n c : Int) (t o out : List Int) : toGo (m + 1) (n :: t) (c :: o) [] out = toGo m (n :: t) o [c] (out ++ [73]) := by
 simp [toGo]
theorem toGo_push (m : Nat) (n c x : Int) (t o s out : List Int) (h : x ≠ n) : toGo (m + 1) (n :: t) (c :: o) (x :: s) out = toGo m (n :: t) o (c :: x :: s) (out ++ [73]) := by
 simp [toGo, h]
theorem toGo_stop (m : Nat) (n x : Int) (t s out : List Int) (h : x ≠ n) : toGo (m + 1) (n :: t) [] (x :: s) out = ([], false) := by
 simp [toGo, h]
theorem spec_to_l (a b : List Int) (ha : a.length ≤ 7) (hb : b.length ≤ 7) : ∀ (m : Nat) (t o s out opre tpre : List Int), a = opre ++ o → b = tpre ++ t → o.length + t.length ≤ m → s.length + o.length = t.length → out.length + m ≤ 1000 →
 Ev (fun k => spec_l2To.l0 k a b (strOfNums out) s.reverse (opre.length : Int) (tpre.length : Int)) (strOfNums (toGo m t o s out).1, (toGo m t o s out).2) ∧
 (t ≠ [] → Ev (fun k => spec_l2To.l1 k a b (strOfNums out) s.reverse (opre.length : Int) (tpre.length : Int)) (strOfNums (toGo m t o s out).1, (toGo m t o s out).2)) := by
 intro m
 induction m with
 | zero =>
  intro t o s out opre tpre e1 e2 hm hs ho
  have ht : t = [] := List.length_eq_zero_iff.1 (by omega)
  subst ht
  have h2 := len_end e2
  refine ⟨?_, fun h => absurd rfl h⟩
  refine ev_succ ?_
  simp only [spec_l2To.l0.eq_2]
  exact ev_neg (by omega) (ev_now (by rw [toGo_nil]))
 | succ m ih =>
  intro t o s out opre tpre e1 e2 hm hs ho
  have key : t ≠ [] → Ev (fun k => spec_l2To.l1 k a b (strOfNums out) s.reverse (opre.length : Int) (tpre.length : Int)) (strOfNums (toGo (m + 1) t o s out).1, (toGo (m + 1) t o s out).2) := by
   intro hne
   obtain ⟨n, t, rfl⟩ : ∃ n t', t = n :: t' := by cases t with
    | nil => exact absurd rfl hne
    | cons n t' => exact ⟨n, t', rfl⟩
   have h2 := len_mid e2
   simp only [List.length_cons] at hm hs
   have hsz : (strOfNums out).size = out.length := str_size out
   refine ev_succ ?_
   simp only [spec_l2To.l1.eq_2, rd_mid' e2]
   cases o with
   | cons c o =>
    have h1 := len_mid e1
    simp only [List.length_cons] at hm hs
    rw [rd_mid' e1, wrap_snoc (pre := opre) (c := c) (by omega), wrap_snoc (pre := tpre) (c := n) (by omega), str_snocI, str_snocO]
    refine ev_pos (by omega) ?_
    cases s with
    | nil =>
     refine ev_pos (by simp) (ev_pos (by omega) (ev_pos (by simp) (ev_pos (by omega) ?_)))
     rw [toGo_push0]
     exact (ih (n :: t) o [c] (out ++ [73]) (opre ++ [c]) tpre (snoc_mid e1) e2 (by simp; omega) (by simp at hs ⊢; omega) (by simp; omega)).2 (by simp)
    | cons x s =>
     simp only [List.length_cons] at hs
     have hl : ((x :: s).reverse.length : Int) = (s.length : Int) + 1 := by simp
     rw [wrap_of (x := ((x :: s).reverse.length : Int) - 1) (by omega) (by omega), top_rev, pop_rev]
     refine ev_neg (by omega) (ev_pos (by omega) (ev_pos (by omega) (ev_pos (by omega) (ev_pos (by omega) ?_))))
     by_cases hx : x = n
     · subst hx
       refine ev_pos rfl (ev_pos (by omega) (ev_pos (by omega) ?_))
       rw [toGo_pop]
       exact (ih t (c :: o) s (out ++ [79]) opre (tpre ++ [x]) e1 (snoc_mid e2) (by simp; omega) (by simp; omega) (by simp; omega)).1
     · refine ev_neg hx (ev_pos (by omega) (ev_pos (by simp; omega) (ev_pos (by omega) ?_)))
       rw [toGo_push _ _ _ _ _ _ _ _ hx]
       have := (ih (n :: t) o (c :: x :: s) (out ++ [73]) (opre ++ [c]) tpre (snoc_mid e1) e2 (by simp; omega) (by simp; omega) (by simp; omega)).2 (by simp)
       simpa using this
   | nil =>
    have h1 := len_end e1
    cases s with
    | nil => simp at hs
    | cons x s =>
     simp only [List.length_cons, List.length_nil] at hs
     have hl : ((x :: s).reverse.length : Int) = (s.length : Int) + 1 := by simp
     rw [wrap_of (x := ((x :: s).reverse.length : Int) - 1) (by omega) (by omega), top_rev, pop_rev, wrap_snoc (pre := tpre) (c := n) (by omega), str_snocO]
     refine ev_neg (by omega) (ev_pos (by omega) (ev_pos (by omega) (ev_pos (by omega) (ev_pos (by omega) ?_))))
     by_cases hx : x = n
     · subst hx
       refine ev_pos rfl (ev_pos (by omega) (ev_pos (by omega) ?_))
       rw [toGo_pop]
       exact (ih t [] s (out ++ [79]) opre (tpre ++ [x]) e1 (snoc_mid e2) (by simp; omega) (by simp; omega) (by simp; omega)).1
     · rw [toGo_stop _ _ _ _ _ _ hx]
       exact ev_neg hx (ev_now (by simp [str_nil]))
  refine ⟨?_, key⟩
  cases t with
  | nil =>
   have h2 := len_end e2
   refine ev_succ ?_
   simp only [spec_l2To.l0.eq_2]
   exact ev_neg (by omega) (ev_now (by rw [toGo_nil]))
  | cons n t =>
   have h2 := len_mid e2
   refine ev_succ ?_
   simp only [spec_l2To.l0.eq_2]
   exact ev_pos (by omega) (key (by simp))
theorem impl_to_l (b : List Int) (hb : b.length ≤ 7) : ∀ (m : Nat) (t o s out tpre : List Int), b = tpre ++ t → o.length + t.length ≤ m → s.length + o.length = t.length → out.length + m ≤ 1000 →
 Ev (fun k => impl_wordTo.l0 k o s.reverse out b (b.length : Int) (tpre.length : Int)) (strOfNums (toGo m t o s out).1, (toGo m t o s out).2) ∧
 (∀ n t', t = n :: t' → Ev (fun k => impl_wordTo.l1 k o s.reverse out n b (b.length : Int) (tpre.length : Int)) (strOfNums (toGo m t o s out).1, (toGo m t o s out).2)) := by
 intro m
 induction m with
 | zero =>
  intro t o s out tpre e2 hm hs ho
  have ht : t = [] := List.length_eq_zero_iff.1 (by omega)
  subst ht
  have h2 := len_end e2
  refine ⟨?_, fun n t' h => by cases h⟩
  refine ev_succ ?_
  simp only [impl_wordTo.l0.eq_2]
  exact ev_neg (by omega) (ev_now (by rw [toGo_nil]))
 | succ m ih =>
  intro t o s out tpre e2 hm hs ho
  have key : ∀ n t', t = n :: t' → Ev (fun k => impl_wordTo.l1 k o s.reverse out n b (b.length : Int) (tpre.length : Int)) (strOfNums (toGo (m + 1) t o s out).1, (toGo (m + 1) t o s out).2) := by
   intro n t' et
   subst et
   have h2 := len_mid e2
   simp only [List.length_cons] at hm hs
   have push : ∀ c o', o = c :: o' → s.head? ≠ some n → Ev (fun k => impl_wordTo.j2 k o s.reverse out n b (b.length : Int) (tpre.length : Int) true) (strOfNums (toGo (m + 1) (n :: t') o s out).1, (toGo (m + 1) (n :: t') o s out).2) := by
    intro c o' eo hh
    subst eo
    simp only [List.length_cons] at hm hs
    refine ev_succ ?_
    simp only [impl_wordTo.j2.eq_2]
    refine ev_pos trivial (ev_neg (by simp; omega) (ev_pos (by simp) (ev_let (ev_pos (by simp; omega) (ev_pos (by simp; omega) (ev_let (ev_pos (by simp; omega) ?_)))))))
    have hr : rd (c :: o') 0 = c := by simp [rd]
    have e3 : toGo (m + 1) (n :: t') (c :: o') s out = toGo m (n :: t') o' (c :: s) (out ++ [73]) := by
     simp [toGo, hh]
    rw [hr, e3]
    have := (ih (n :: t') o' (c :: s) (out ++ [73]) tpre e2 (by simp; omega) (by simp; omega) (by simp; omega)).2 n t' rfl
    simpa using this
   refine ev_succ ?_
   simp only [impl_wordTo.l1.eq_2]
   cases s with
   | nil =>
    refine ev_pos (by simp) ?_
    cases o with
    | nil => simp at hs
    | cons c o => exact push c o rfl (by simp)
   | cons x s =>
    simp only [List.length_cons] at hs
    have hl : ((x :: s).reverse.length : Int) = (s.length : Int) + 1 := by simp
    rw [wrap_of (x := ((x :: s).reverse.length : Int) - 1) (by omega) (by omega), top_rev]
    refine ev_neg (by omega) (ev_pos (by omega) (ev_pos (by omega) ?_))
    by_cases hx : x = n
    · subst hx
      have hb' : (x != x) = false := by simp
      rw [hb']
      refine ev_succ ?_
      simp only [impl_wordTo.j2.eq_2]
      rw [wrap_of (x := ((x :: s).reverse.length : Int) - 1) (by omega) (by omega), pop_rev, wrap_snoc (pre := tpre) (c := x) (by omega)]
      refine ev_neg (by simp) (ev_pos (by omega) (ev_pos (by omega) (ev_let (ev_pos (by simp; omega) ?_))))
      rw [toGo_pop]
      exact (ih t' o s (out ++ [79]) (tpre ++ [x]) (snoc_mid e2) (by omega) (by omega) (by simp; omega)).1
    · have hb' : (x != n) = true := by simpa using hx
      rw [hb']
      cases o with
      | nil =>
       refine ev_succ ?_
       simp only [impl_wordTo.j2.eq_2]
       rw [toGo_stop _ _ _ _ _ _ hx]
       exact ev_pos trivial (ev_pos (by simp) (ev_now (by simp [str_nil])))
      | cons c o => exact push c o rfl (by simpa using hx)
  refine ⟨?_, key⟩
  cases t with
  | nil =>
   have h2 := len_end e2
   refine ev_succ ?_
   simp only [impl_wordTo.l0.eq_2]
   exact ev_neg (by omega) (ev_now (by rw [toGo_nil]))
  | cons n t =>
   have h2 := len_mid e2
   refine ev_succ ?_
   simp only [impl_wordTo.l0.eq_2, rd_mid' e2]
   exact ev_pos (by omega) (ev_pos (by omega) (ev_pos (by omega) (key n t rfl)))
theorem spec_to_ev (a b : List Int) (ha : a.length ≤ 7) (h : a.length = b.length) : Ev (fun k => spec_l2To.f k a b) (toW a b) := by
 unfold spec_l2To.f toW toL
 have := (spec_to_l a b ha (by omega) (a.length + b.length) b a [] [] [] [] rfl rfl (by omega) (by simp; omega) (by simp; omega)).1
 simpa [str_nil] using this
theorem impl_to_ev (a b : List Int) (ha : a.length ≤ 7) (h : a.length = b.length) : Ev (fun k => impl_wordTo.f k a b) (toW a b) := by
 unfold impl_wordTo.f toW toL
 have := (impl_to_l b (by omega) (a.length + b.length) b a [] [] [] rfl (by omega) (by simp; omega) (by simp; omega)).1
 simpa using this

theorem spec_wt_ev (a b : List Int) (ha : a.length ≤ 140737488351232) (hb : b.length ≤ 140737488351232) : Ev (fun k => spec_WordTo.f k a b) (toR a b) := by
 unfold spec_WordTo.f toR
 refine ev_bind (spec_order_ev a ha) ?_
 by_cases h1 : isOrd a = true
 · refine ev_pos h1 (ev_bind (spec_order_ev b hb) ?_)
   by_cases h2 : isOrd b = true
   · refine ev_pos h2 ?_
     by_cases h3 : a.length = b.length
     · rw [if_pos ⟨h1, h2, h3⟩]
       exact ev_pos (by omega) (ev_bind (spec_to_ev a b (ord_len h1).2 h3) (ev_now rfl))
     · rw [if_neg (fun h => h3 h.2.2)]
       exact ev_neg (by omega) (ev_now rfl)
   · rw [if_neg (fun h => h2 h.2.1)]
     exact ev_neg h2 (ev_now rfl)
 · rw [if_neg (fun h => h1 h.1)]
   exact ev_neg h1 (ev_now rfl)
theorem impl_wt_ev (a b : List Int) (ha : a.length ≤ 140737488351232) (hb : b.length ≤ 140737488351232) : Ev (fun k => impl_WordTo.f k a b) (toR a b) := by
 unfold impl_WordTo.f toR
 refine ev_bind (areOrders_ev a b ha hb) ?_
 by_cases h : isOrd a = true ∧ isOrd b = true ∧ a.length = b.length
 · rw [if_pos h]
   exact ev_pos (by simp [h.1, h.2.1, h.2.2]) (ev_bind (impl_to_ev a b (ord_len h.1).2 h.2.2) (ev_now rfl))
 · rw [if_neg h]
   exact ev_neg (fun hh => h (by simpa [and_assoc] using hh)) (ev_now rfl)

/-! ### MirrorWord -/
theorem spec_mirror_l (w : ByteArray) (hw : w.size ≤ 14) : ∀ (n : Nat) (pre suf out : List Int), pre.length = n → bytesOf w = pre ++ suf → out.length = suf.length → Ev (fun k => spec_MirrorWord.l0 k w (strOfNums out) ((pre.length : Int) - 1)) (strOfNums (out ++ mirrorL pre), true) := by
 intro n
 induction n with
 | zero =>
  intro pre suf out hn e ho
  obtain rfl : pre = [] := List.length_eq_zero_iff.1 hn
  refine ev_succ ?_
  simp only [spec_MirrorWord.l0.eq_2]
  exact ev_neg (by simp) (ev_now (by simp [mirrorL]))
 | succ n ih =>
  intro pre suf out hn e ho
  rcases List.eq_nil_or_concat pre with rfl | ⟨pre, c, rfl⟩
  · simp at hn
  rw [List.concat_eq_append] at e hn ⊢
  have e' : bytesOf w = pre ++ c :: suf := by rw [e]; simp
  have h := size_mid e'
  have hi : ((pre ++ [c]).length : Int) - 1 = (pre.length : Int) := by simp
  rw [hi]
  refine ev_succ ?_
  simp only [spec_MirrorWord.l0.eq_2, bt_mid e']
  rw [wrap_of (x := (pre.length : Int) - 1) (by omega) (by omega)]
  refine ev_pos (by omega) (ev_pos (by omega) (ev_pos (by omega) ?_))
  by_cases hc : c = 73
  · refine ev_pos hc (ev_pos (by rw [str_size]; omega) ?_)
    rw [str_snocO]
    refine ev_eq (ih pre (c :: suf) _ ?_ e' ?_) ?_
    · simpa using hn
    · simp [ho]
    · simp [mirrorL, flipC, hc]
  · refine ev_neg hc (ev_pos (by rw [str_size]; omega) ?_)
    rw [str_snocI]
    refine ev_eq (ih pre (c :: suf) _ ?_ e' ?_) ?_
    · simpa using hn
    · simp [ho]
    · simp [mirrorL, flipC, hc]
theorem spec_mirror_ev (w : ByteArray) (hw : w.size ≤ 140737488351232) : Ev (fun k => spec_MirrorWord.f k w) (mirrorR w) := by
 unfold spec_MirrorWord.f mirrorR
 have hb := bytes_len w
 by_cases h : isWd (bytesOf w) = true
 · rw [onWd_pos h]
   have h14 := ((isWd_iff _).1 h).1
   rw [hb] at h14
   refine ev_bind (spec_any_ev w hw) (ev_pos h ?_)
   rw [wrap_of (by omega) (by omega), ← str_nil, ← hb]
   exact spec_mirror_l w h14.2 _ (bytesOf w) [] [] rfl (by simp) rfl
 · rw [onWd_neg h]
   exact ev_bind (spec_any_ev w hw) (ev_neg h (ev_now rfl))
theorem impl_mirror_l (w : ByteArray) (hw : w.size ≤ 14) : ∀ (n : Nat) (pre suf out : List Int), pre.length = n → bytesOf w = pre ++ suf → out.length = suf.length → Ev (fun k => impl_mirror.l0 k w out ((pre.length : Int) - 1)) (strOfNums (out ++ mirrorL pre)) := by
 intro n
 induction n with
 | zero =>
  intro pre suf out hn e ho
  obtain rfl : pre = [] := List.length_eq_zero_iff.1 hn
  refine ev_succ ?_
  simp only [impl_mirror.l0.eq_2]
  exact ev_neg (by simp) (ev_now (by simp [mirrorL]))
 | succ n ih =>
  intro pre suf out hn e ho
  rcases List.eq_nil_or_concat pre with rfl | ⟨pre, c, rfl⟩
  · simp at hn
  rw [List.concat_eq_append] at e hn ⊢
  have e' : bytesOf w = pre ++ c :: suf := by rw [e]; simp
  have h := size_mid e'
  have hi : ((pre ++ [c]).length : Int) - 1 = (pre.length : Int) := by simp
  rw [hi]
  refine ev_succ ?_
  simp only [impl_mirror.l0.eq_2, bt_mid e']
  rw [wrap_of (x := (pre.length : Int) - 1) (by omega) (by omega)]
  refine ev_pos (by omega) (ev_pos (by omega) (ev_pos (by omega) ?_))
  by_cases hc : c = 73
  · refine ev_pos hc (ev_pos (by omega) ?_)
    refine ev_eq (ih pre (c :: suf) _ ?_ e' ?_) ?_
    · simpa using hn
    · simp [ho]
    · simp [mirrorL, flipC, hc]
  · refine ev_neg hc (ev_pos (by omega) ?_)
    refine ev_eq (ih pre (c :: suf) _ ?_ e' ?_) ?_
    · simpa using hn
    · simp [ho]
    · simp [mirrorL, flipC, hc]
theorem impl_mirrorword_ev (w : ByteArray) (hw : w.size ≤ 140737488351232) : Ev (fun k => impl_MirrorWord.f k w) (mirrorR w) := by
 unfold impl_MirrorWord.f mirrorR
 have hb := bytes_len w
 by_cases h : isWd (bytesOf w) = true
 · rw [onWd_pos h]
   have h14 := ((isWd_iff _).1 h).1
   rw [hb] at h14
   refine ev_bind (isWord_ev w hw) (ev_pos h (ev_bind (a := strOfNums (mirrorL (bytesOf w))) ?_ (ev_now rfl)))
   unfold impl_mirror.f
   rw [wrap_of (by omega) (by omega), ← hb]
   exact impl_mirror_l w h14.2 _ (bytesOf w) [] [] rfl (by simp) rfl
 · rw [onWd_neg h]
   exact ev_bind (isWord_ev w hw) (ev_neg h (ev_now rfl))

theorem most_ev (a b : Int) : Ev (fun _ => spec_l1Most.f a b) (mx a b) := by
 have e : mx a b = if a > b then a else b := by unfold mx; split <;> split <;> omega
 rw [e]
 unfold spec_l1Most.f
 by_cases h : a > b
 · simp only [if_pos h]; exact ev_now rfl
 · simp only [if_neg h]; exact ev_now rfl

/-! ### DepthOf -/
theorem spec_deep_l (w : ByteArray) (hw : w.size ≤ 14) : ∀ (suf pre : List Int) (d m : Int), bytesOf w = pre ++ suf → wGo suf d = true → 0 ≤ d → d ≤ pre.length → Ev (fun k => spec_l2Depth.l0 k w d m (pre.length : Int)) (wDeep suf d m) := by
 intro suf
 induction suf with
 | nil =>
  intro pre d m e hg h0 h1
  have h := size_end e
  refine ev_succ ?_
  simp only [spec_l2Depth.l0.eq_2]
  exact ev_neg (by omega) (ev_now rfl)
 | cons c suf ih =>
  intro pre d m e hg h0 h1
  have h := size_mid e
  refine ev_succ ?_
  simp only [spec_l2Depth.l0.eq_2, bt_mid e]
  rw [wrap_snoc (pre := pre) (c := c) (by omega), wrap_of (x := d + 1) (by omega) (by omega), wrap_of (x := d - 1) (by omega) (by omega)]
  refine ev_pos (by omega) (ev_pos (by omega) ?_)
  by_cases hI : c = 73
  · subst hI
    rw [wGo_in] at hg
    refine ev_pos rfl (ev_bind (most_ev _ _) ?_)
    rw [wDeep_in]
    exact ih _ _ _ (snoc_mid e) hg (by omega) (by simp; omega)
  · by_cases hO : c = 79
    · subst hO
      rw [wGo_out] at hg
      by_cases hd : d > 0
      · rw [if_pos hd] at hg
        refine ev_neg hI (ev_bind (most_ev _ _) ?_)
        rw [wDeep_out]
        exact ih _ _ _ (snoc_mid e) hg (by omega) (by simp; omega)
      · rw [if_neg hd] at hg; cases hg
    · simp only [wGo] at hg
      rw [if_neg hI, if_neg hO] at hg; cases hg
def depthR (w : ByteArray) : Int × Bool := if isWd (bytesOf w) = true then (wDeep (bytesOf w) 0 0, true) else (0, false)
theorem spec_depthof_ev (w : ByteArray) (hw : w.size ≤ 140737488351232) : Ev (fun k => spec_DepthOf.f k w) (depthR w) := by
 unfold spec_DepthOf.f depthR
 have hb := bytes_len w
 refine ev_bind (spec_any_ev w hw) ?_
 by_cases h : isWd (bytesOf w) = true
 · rw [if_pos h]
   have h' := (isWd_iff _).1 h
   rw [hb] at h'
   refine ev_pos h (ev_bind (a := wDeep (bytesOf w) 0 0) ?_ (ev_now rfl))
   unfold spec_l2Depth.f
   exact spec_deep_l w h'.1.2 (bytesOf w) [] 0 0 rfl h'.2 (by omega) (by simp)
 · rw [if_neg h]; exact ev_neg h (ev_now rfl)
theorem impl_depthof_ev (w : ByteArray) (hw : w.size ≤ 140737488351232) : Ev (fun k => impl_DepthOf.f k w) (depthR w) := by
 unfold impl_DepthOf.f depthR
 exact ev_bind (depth_ev w hw) (ev_now rfl)

/-! ### words as they are drawn -/
theorem word_l {l : List Int} (hl : byteL l) (n : Nat) (hn : n ≤ 9) : ∀ (d : Nat) (x : ByteArray) (c s1 s2 : Int), x.size + d = 2 * n → 0 ≤ c → c ≤ x.size → 0 ≤ s1 → s1 + d ≤ 700000 →
 ∃ v, Ev (fun k => spec_l1Cur_word.l0 k (n : Int) x c l s1 s2) v ∧ v.1.size ≤ 2 * n + 1 ∧ 0 ≤ v.2.1 ∧ v.2.1 ≤ s1 + d + 10 := by
 intro d
 induction d with
 | zero =>
  intro x c s1 s2 hx h0 hc hs hs'
  obtain ⟨b, s3, s4, hb, hb1, hb2⟩ := one_any hl s1 s2 24 hs (by omega) (by omega) (by omega)
  cases b with
  | true =>
   have hsp := spoilt_ok2 hl s3 s4 x (⟨#[73, 79, 88]⟩ : ByteArray) (by omega) (by omega) (by omega) (by decide) (by decide)
   obtain ⟨t, s5, s6, ht, hts, h5, h6⟩ := hsp
   refine ⟨(t, s5, s6), ev_succ ?_, by simp only; omega, by simp only; omega, by simp only; omega⟩
   simp only [spec_l1Cur_word.l0.eq_2, hb]
   rw [wrap_of (x := 2 * (n : Int)) (by omega) (by omega)]
   refine ev_neg (by omega) (ev_let (ev_pos rfl ?_))
   simp only [ht]
   exact ev_let (ev_now rfl)
  | false =>
   refine ⟨(x, s3, s4), ev_succ ?_, by simp only; omega, by simp only; omega, by simp only; omega⟩
   simp only [spec_l1Cur_word.l0.eq_2, hb]
   rw [wrap_of (x := 2 * (n : Int)) (by omega) (by omega)]
   exact ev_neg (by omega) (ev_let (ev_neg (by simp) (ev_now rfl)))
 | succ d ih =>
  intro x c s1 s2 hx h0 hc hs hs'
  have hz : ∀ (b : UInt8), (x ++ (⟨#[b]⟩ : ByteArray)).size = x.size + 1 := fun b => by rw [ByteArray.size_append]; rfl
  have e1 : wrap64 (2 * (n : Int)) = 2 * (n : Int) := wrap_of (by omega) (by omega)
  have e2 : wrap64 (c + 1) = c + 1 := wrap_of (by omega) (by omega)
  have e3 : wrap64 (c - 1) = c - 1 := wrap_of (by omega) (by omega)
  by_cases hc0 : c = 0
  · obtain ⟨v, hv, h1, h2, h3⟩ := ih (x ++ (⟨#[73]⟩ : ByteArray)) (c + 1) s1 s2 (by rw [hz]; omega) (by omega) (by rw [hz]; omega) hs (by omega)
    refine ⟨v, ev_succ ?_, h1, h2, by omega⟩
    simp only [spec_l1Cur_word.l0.eq_2, e1, e2, e3]
    exact ev_pos (by omega) (ev_pos hc0 (ev_pos (by omega) hv))
  · have e4 : wrap64 (2 * (n : Int) - (x.size : Int)) = 2 * (n : Int) - (x.size : Int) := wrap_of (by omega) (by omega)
    by_cases hc1 : c < 2 * (n : Int) - (x.size : Int)
    · obtain ⟨b, s3, s4, hb, hb1, hb2⟩ := one_any hl s1 s2 2 hs (by omega) (by omega) (by omega)
      cases b with
      | true =>
       obtain ⟨v, hv, h1, h2, h3⟩ := ih (x ++ (⟨#[73]⟩ : ByteArray)) (c + 1) s3 s4 (by rw [hz]; omega) (by omega) (by rw [hz]; omega) (by omega) (by omega)
       refine ⟨v, ev_succ ?_, h1, h2, by omega⟩
       simp only [spec_l1Cur_word.l0.eq_2, e1, e2, e3, e4, hb]
       exact ev_pos (by omega) (ev_neg hc0 (ev_pos hc1 (ev_let (ev_pos rfl (ev_pos (by omega) hv)))))
      | false =>
       obtain ⟨v, hv, h1, h2, h3⟩ := ih (x ++ (⟨#[79]⟩ : ByteArray)) (c - 1) s3 s4 (by rw [hz]; omega) (by omega) (by rw [hz]; omega) (by omega) (by omega)
       refine ⟨v, ev_succ ?_, h1, h2, by omega⟩
       simp only [spec_l1Cur_word.l0.eq_2, e1, e2, e3, e4, hb]
       exact ev_pos (by omega) (ev_neg hc0 (ev_pos hc1 (ev_let (ev_neg (by simp) (ev_pos (by omega) hv)))))
    · obtain ⟨v, hv, h1, h2, h3⟩ := ih (x ++ (⟨#[79]⟩ : ByteArray)) (c - 1) s1 s2 (by rw [hz]; omega) (by omega) (by rw [hz]; omega) hs (by omega)
      refine ⟨v, ev_succ ?_, h1, h2, by omega⟩
      simp only [spec_l1Cur_word.l0.eq_2, e1, e2, e3, e4]
      exact ev_pos (by omega) (ev_neg hc0 (ev_neg hc1 (ev_pos (by omega) hv)))
theorem word_ok {l : List Int} (hl : byteL l) (n : Nat) (hn : n ≤ 9) (s1 s2 : Int) (h0 : 0 ≤ s1) (h1 : s1 ≤ 600000) : ∃ v, Ev (fun k => spec_l1Cur_word.f k l s1 s2 (n : Int)) v ∧ v.1.size ≤ 2 * n + 1 ∧ 0 ≤ v.2.1 ∧ v.2.1 ≤ s1 + 100 := by
 obtain ⟨v, hv, h2, h3, h4⟩ := word_l hl n hn (2 * n) (⟨#[]⟩ : ByteArray) 0 s1 s2 (by show 0 + 2 * n = 2 * n; omega) (by omega) (by show (0 : Int) ≤ ((0 : Nat) : Int); omega) h0 (by omega)
 exact ⟨v, by unfold spec_l1Cur_word.f; exact hv, h2, h3, by omega⟩

/-! ### WordTo and RunWord undo one another -/
def runF : List Int → List Int → List Int → List Int
 | [], _, _ => []
 | c :: w, order, st => if c = 73 then runF w order.tail (order.headD 0 :: st) else st.headD 0 :: runF w order st.tail
theorem runGo_F : ∀ (w order st out : List Int), runGo w order st out = out.reverse ++ runF w order st := by
 intro w
 induction w with
 | nil => intro o s t; simp [runGo, runF]
 | cons c w ih =>
  intro o s t
  simp only [runGo, runF]
  by_cases h : c = 73
  · rw [if_pos h, if_pos h, ih]
  · rw [if_neg h, if_neg h, ih]; simp
theorem runL_F (o w : List Int) : runL o w = runF w o [] := by unfold runL; rw [runGo_F]; rfl
theorem runF_in (s o st : List Int) (c : Int) : runF (73 :: s) (c :: o) st = runF s o (c :: st) := by simp [runF]
theorem runF_out (s o st : List Int) (x : Int) : runF (79 :: s) o (x :: st) = x :: runF s o st := by simp [runF]
theorem wGo_le : ∀ (s : List Int) (d : Int), wGo s d = true → d ≤ s.length := by
 intro s
 induction s with
 | nil => intro d h; simp [wGo] at h; simp [h]
 | cons c s ih =>
  intro d h
  simp only [wGo] at h
  by_cases h1 : c = 73
  · rw [if_pos h1] at h; have := ih _ h; simp; omega
  · rw [if_neg h1] at h
    by_cases h2 : c = 79
    · rw [if_pos h2] at h
      by_cases h3 : d > 0
      · rw [if_pos h3] at h; have := ih _ h; simp; omega
      · rw [if_neg h3] at h; cases h
    · rw [if_neg h2] at h; cases h
theorem wGo_cons {c : Int} {s : List Int} {d : Int} (h : wGo (c :: s) d = true) : (c = 73 ∧ wGo s (d + 1) = true) ∨ (c = 79 ∧ d > 0 ∧ wGo s (d - 1) = true) := by
 simp only [wGo] at h
 by_cases h1 : c = 73
 · rw [if_pos h1] at h; exact .inl ⟨h1, h⟩
 · rw [if_neg h1] at h
   by_cases h2 : c = 79
   · rw [if_pos h2] at h
     by_cases h3 : d > 0
     · rw [if_pos h3] at h; exact .inr ⟨h2, h3, h⟩
     · rw [if_neg h3] at h; cases h
   · rw [if_neg h2] at h; cases h
theorem rem_some {s rem : List Int} {d : Nat} (h : wGo s ((d : Int) + 1) = true) (hl : s.length + 1 = 2 * rem.length + d) : ∃ c r, rem = c :: r := by
 cases rem with
 | nil => have := wGo_le _ _ h; simp at hl; omega
 | cons c r => exact ⟨c, r, rfl⟩
theorem head_mem : ∀ (s r st : List Int) (c : Int), wGo s ((st.length : Int) + 1) = true → s.length = 2 * r.length + st.length + 1 → ∃ n t, runF s r (c :: st) = n :: t ∧ n ∈ c :: r := by
 intro s
 induction s with
 | nil => intro r st c h _; have := wGo_le _ _ h; simp at this; omega
 | cons a s ih =>
  intro r st c h hl
  rcases wGo_cons h with ⟨rfl, h'⟩ | ⟨rfl, _, h'⟩
  · obtain ⟨d, r', rfl⟩ := rem_some (s := s) (rem := r) (d := st.length + 1) (by rw [show (((st.length + 1 : Nat)) : Int) + 1 = (st.length : Int) + 1 + 1 by omega]; exact h') (by simp at hl ⊢; omega)
    rw [runF_in]
    obtain ⟨n, t, e, hm⟩ := ih r' (c :: st) d (by simpa using h') (by simp at hl ⊢; omega)
    exact ⟨n, t, e, List.mem_cons_of_mem _ hm⟩
  · rw [runF_out]
    exact ⟨c, _, rfl, List.mem_cons_self⟩
theorem to_run : ∀ (s rem st out : List Int) (m : Nat), wGo s (st.length : Int) = true → s.length = 2 * rem.length + st.length → (rem ++ st).Nodup → s.length ≤ m → toGo m (runF s rem st) rem st out = (out ++ s, true) := by
 intro s
 induction s with
 | nil => intro rem st out m _ _ _ _; simp [runF, toGo_nil]
 | cons c s ih =>
  intro rem st out m h hl hnd hm
  obtain ⟨m, rfl⟩ : ∃ q, m = q + 1 := ⟨m - 1, by simp at hm; omega⟩
  simp only [List.length_cons] at hl hm
  rcases wGo_cons h with ⟨rfl, h'⟩ | ⟨rfl, hd, h'⟩
  · obtain ⟨c, r, rfl⟩ := rem_some (s := s) (rem := rem) (d := st.length) h' (by omega)
    rw [runF_in]
    obtain ⟨n, t, e, hmem⟩ := head_mem s r st c h' (by simp at hl; omega)
    have hrec := ih r (c :: st) (out ++ [73]) m (by simpa using h') (by simp at hl ⊢; omega) (by
     have : (c :: (r ++ st)).Perm (r ++ c :: st) := List.perm_middle.symm
     exact this.nodup hnd) (by omega)
    rw [e] at hrec ⊢
    cases st with
    | nil => rw [toGo_push0, hrec]; simp
    | cons x st =>
     have hx : x ≠ n := by
      rintro rfl
      have h1 : x ∈ c :: r := hmem
      exact (List.nodup_append.1 hnd).2.2 x h1 x List.mem_cons_self rfl
     rw [toGo_push _ _ _ _ _ _ _ _ hx, hrec]; simp
  · cases st with
    | nil => simp at hd
    | cons x st =>
     rw [runF_out, toGo_pop, ih rem st (out ++ [79]) m (by simpa using h') (by simp at hl; omega) (by
      have : (rem ++ x :: st).Perm (x :: (rem ++ st)) := List.perm_middle
      exact (List.nodup_cons.1 (this.nodup hnd)).2) (by omega)]
     simp
theorem run_perm : ∀ (s rem st : List Int), wGo s (st.length : Int) = true → s.length = 2 * rem.length + st.length → (runF s rem st).Perm (rem ++ st) := by
 intro s
 induction s with
 | nil =>
  intro rem st h hl
  have h1 : rem = [] := List.length_eq_zero_iff.1 (by simp at hl; omega)
  have h2 : st = [] := List.length_eq_zero_iff.1 (by simp at hl; omega)
  subst h1; subst h2; exact List.Perm.refl _
 | cons c s ih =>
  intro rem st h hl
  simp only [List.length_cons] at hl
  rcases wGo_cons h with ⟨rfl, h'⟩ | ⟨rfl, hd, h'⟩
  · obtain ⟨c, r, rfl⟩ := rem_some (s := s) (rem := rem) (d := st.length) h' (by omega)
    rw [runF_in]
    exact (ih r (c :: st) (by simpa using h') (by simp at hl ⊢; omega)).trans List.perm_middle
  · cases st with
    | nil => simp at hd
    | cons x st =>
     rw [runF_out]
     exact ((ih rem st (by simpa using h') (by simp at hl; omega)).cons x).trans List.perm_middle.symm
theorem to_back : ∀ (m : Nat) (t o s out W : List Int), toGo m t o s out = (W, true) → o.length + t.length ≤ m → s.length + o.length = t.length → ∃ suf, W = out ++ suf ∧ runF suf o s = t ∧ wGo suf (s.length : Int) = true ∧ suf.length = o.length + t.length ∧ ∀ c ∈ suf, c = 73 ∨ c = 79 := by
 intro m
 induction m with
 | zero =>
  intro t o s out W h hm hl
  have h1 : t = [] := List.length_eq_zero_iff.1 (by omega)
  have h2 : o = [] := List.length_eq_zero_iff.1 (by omega)
  have h3 : s = [] := List.length_eq_zero_iff.1 (by omega)
  subst h1; subst h2; subst h3
  rw [toGo_nil] at h
  exact ⟨[], by simp [← (Prod.mk.inj h).1], rfl, rfl, rfl, by simp⟩
 | succ m ih =>
  intro t o s out W h hm hl
  cases t with
  | nil =>
   simp only [List.length_nil] at hl
   have h2 : o = [] := List.length_eq_zero_iff.1 (by omega)
   have h3 : s = [] := List.length_eq_zero_iff.1 (by omega)
   subst h2; subst h3
   rw [toGo_nil] at h
   exact ⟨[], by simp [← (Prod.mk.inj h).1], rfl, rfl, rfl, by simp⟩
  | cons n t =>
   have push : ∀ (c : Int) (o' : List Int), o = c :: o' → toGo m (n :: t) o' (c :: s) (out ++ [73]) = (W, true) → ∃ suf, W = out ++ suf ∧ runF suf o s = n :: t ∧ wGo suf (s.length : Int) = true ∧ suf.length = o.length + (n :: t).length ∧ ∀ c ∈ suf, c = 73 ∨ c = 79 := by
    intro c o' ho hq
    subst ho
    obtain ⟨suf, e1, e2, e3, e4, e5⟩ := ih (n :: t) o' (c :: s) (out ++ [73]) W hq (by simp at hm ⊢; omega) (by simp at hl ⊢; omega)
    refine ⟨73 :: suf, by rw [e1]; simp, by rw [runF_in]; exact e2, by rw [wGo_in]; simpa using e3, by simp at e4 ⊢; omega, ?_⟩
    intro x hx
    rcases List.mem_cons.1 hx with rfl | hx
    · exact .inl rfl
    · exact e5 x hx
   cases s with
   | nil =>
    cases o with
    | nil => simp at hl
    | cons c o' => rw [toGo_push0] at h; exact push c o' rfl h
   | cons x s =>
    by_cases hx : x = n
    · subst hx
      rw [toGo_pop] at h
      obtain ⟨suf, e1, e2, e3, e4, e5⟩ := ih t o s (out ++ [79]) W h (by simp at hm; omega) (by simp at hl; omega)
      refine ⟨79 :: suf, by rw [e1]; simp, by rw [runF_out, e2], ?_, by simp at e4 ⊢; omega, ?_⟩
      · rw [wGo_out, if_pos (by simp only [List.length_cons]; omega)]; simpa using e3
      · intro y hy
        rcases List.mem_cons.1 hy with rfl | hy
        · exact .inr rfl
        · exact e5 y hy
    · cases o with
      | nil => rw [toGo_stop _ _ _ _ _ _ hx] at h; cases h
      | cons c o' => rw [toGo_push _ _ _ _ _ _ _ _ hx] at h; exact push c o' rfl h
theorem toL_run {o w : List Int} (hw : wGo w 0 = true) (hl : w.length = 2 * o.length) (hnd : o.Nodup) : toL o (runL o w) = (w, true) := by
 have hp := run_perm w o [] (by simpa using hw) (by simpa using hl)
 have hlen := hp.length_eq
 rw [runL_F]
 unfold toL
 have := to_run w o [] [] (o.length + (runF w o []).length) (by simpa using hw) (by simpa using hl) (by simpa using hnd) (by simp at hlen; omega)
 simpa using this
theorem run_toL {a b W : List Int} (h : toL a b = (W, true)) (hl : a.length = b.length) : runL a W = b ∧ wGo W 0 = true ∧ W.length = 2 * a.length ∧ ∀ c ∈ W, c = 73 ∨ c = 79 := by
 unfold toL at h
 obtain ⟨suf, e1, e2, e3, e4, e5⟩ := to_back _ b a [] [] W h (Nat.le_refl _) (by simpa using hl)
 rw [List.nil_append] at e1
 subst e1
 exact ⟨by rw [runL_F]; exact e2, by simpa using e3, by omega, e5⟩

/-! ### laws.rInts, laws.rLists -/
theorem rInts_l (a : List Int) (ha : a.length ≤ 1048576) : ∀ (suf pre : List Int), a = pre ++ suf → Ev (fun k => laws_rInts.l0 k a a (pre.length : Int)) true := by
 intro suf
 induction suf with
 | nil =>
  intro pre e
  have h := len_end e
  refine ev_succ ?_
  simp only [laws_rInts.l0.eq_2]
  exact ev_neg (by omega) (ev_now rfl)
 | cons c suf ih =>
  intro pre e
  have h := len_mid e
  refine ev_succ ?_
  simp only [laws_rInts.l0.eq_2]
  rw [wrap_snoc (pre := pre) (c := c) (by omega)]
  exact ev_pos (by omega) (ev_pos (by omega) (ev_pos (by omega) (ev_pos trivial (ih _ (snoc_mid e)))))
theorem rInts_ev (a : List Int) (ha : a.length ≤ 1048576) : Ev (fun k => laws_rInts.f k a a) true := by
 unfold laws_rInts.f
 exact ev_pos rfl (rInts_l a ha a [] rfl)
theorem rLists_l (a : List (List Int)) (ha : a.length ≤ 1048576) (hr : ∀ x ∈ a, x.length ≤ 1048576) : ∀ (suf pre : List (List Int)), a = pre ++ suf → Ev (fun k => laws_rLists.l0 k a a (pre.length : Int)) true := by
 intro suf
 induction suf with
 | nil =>
  intro pre e
  have h := len_end e
  refine ev_succ ?_
  simp only [laws_rLists.l0.eq_2]
  exact ev_neg (by omega) (ev_now rfl)
 | cons c suf ih =>
  intro pre e
  have h := len_mid e
  have hrd : rd_L2 a (pre.length : Int) = c := by rw [e]; simp [rd_L2]
  refine ev_succ ?_
  simp only [laws_rLists.l0.eq_2, hrd]
  rw [wrap_snoc (pre := pre) (c := c) (by omega)]
  exact ev_pos (by omega) (ev_pos (by omega) (ev_pos (by omega) (ev_bind (rInts_ev c (hr c (by rw [e]; simp))) (ev_pos rfl (ih _ (snoc_mid e))))))
theorem rLists_ev (a : List (List Int)) (ha : a.length ≤ 1048576) (hr : ∀ x ∈ a, x.length ≤ 1048576) : Ev (fun k => laws_rLists.f k a a) true := by
 unfold laws_rLists.f
 exact ev_pos rfl (rLists_l a ha hr a [] rfl)

theorem rTexts_l (a : List ByteArray) (ha : a.length ≤ 1048576) : ∀ (suf pre : List ByteArray), a = pre ++ suf → Ev (fun k => laws_rTexts.l0 k a a (pre.length : Int)) true := by
 intro suf
 induction suf with
 | nil =>
  intro pre e
  have h : (a.length : Int) = pre.length := by rw [e]; simp
  refine ev_succ ?_
  simp only [laws_rTexts.l0.eq_2]
  exact ev_neg (by omega) (ev_now rfl)
 | cons c suf ih =>
  intro pre e
  have h : (a.length : Int) = pre.length + 1 + suf.length := by rw [e]; simp; omega
  refine ev_succ ?_
  simp only [laws_rTexts.l0.eq_2]
  have hw : wrap64 ((pre.length : Int) + 1) = ((pre ++ [c]).length : Int) := by rw [wrap_of (by omega) (by omega)]; simp
  rw [hw]
  exact ev_pos (by omega) (ev_pos (by omega) (ev_pos (by omega) (ev_pos (by trivial) (ih (pre ++ [c]) (by rw [e]; simp)))))
theorem rTexts_ev (a : List ByteArray) (ha : a.length ≤ 1048576) : Ev (fun k => laws_rTexts.f k a a) true := by
 unfold laws_rTexts.f
 exact ev_pos rfl (rTexts_l a ha a [] rfl)
def chkM (n : Nat) : Bool := (wordsC (n + n) n n).all fun w => isWd (mirrorL w) && mirrorL (mirrorL w) == w && wDeep (mirrorL w) 0 0 == wDeep w 0 0 && (mirrorL w).all (fun c => c == 73 || c == 79)
theorem chkM1 : chkM 1 = true := by decide +kernel
theorem chkM2 : chkM 2 = true := by decide +kernel
theorem chkM3 : chkM 3 = true := by decide +kernel
theorem chkM4 : chkM 4 = true := by decide +kernel
theorem chkM5 : chkM 5 = true := by decide +kernel
theorem chkM6 : chkM 6 = true := by decide +kernel
theorem chkM7 : chkM 7 = true := by decide +kernel
theorem mir_ok {w : List Int} (h : isWd w = true) : isWd (mirrorL w) = true ∧ mirrorL (mirrorL w) = w ∧ wDeep (mirrorL w) 0 0 = wDeep w 0 0 ∧ ∀ c ∈ mirrorL w, 0 ≤ c ∧ c ≤ 255 := by
 obtain ⟨n, h1, h7, _, hm⟩ := isWd_mem h
 have hc : chkM n = true := by
  obtain rfl | rfl | rfl | rfl | rfl | rfl | rfl : n = 1 ∨ n = 2 ∨ n = 3 ∨ n = 4 ∨ n = 5 ∨ n = 6 ∨ n = 7 := by omega
  · exact chkM1
  · exact chkM2
  · exact chkM3
  · exact chkM4
  · exact chkM5
  · exact chkM6
  · exact chkM7
 unfold chkM at hc
 have := List.all_eq_true.1 hc _ hm
 simp only [Bool.and_eq_true, beq_iff_eq] at this
 refine ⟨this.1.1.1, this.1.1.2, this.1.2, fun c hcm => ?_⟩
 have := List.all_eq_true.1 this.2 c hcm
 simp only [Bool.or_eq_true, beq_iff_eq] at this
 omega
theorem isword_ev (w : ByteArray) (hw : w.size ≤ 140737488351232) : Ev (fun k => impl_IsWord.f k w) (isWd (bytesOf w)) := by
 unfold impl_IsWord.f
 first
  | exact ev_bind (isWord_ev w hw) (ev_now rfl)
  | exact isWord_ev w hw
theorem ord_nodup {o : List Int} (h : isOrd o = true) : o.Nodup := (ord_perm h).nodup ((iota_sorted o.length 1).imp (fun {a b} h e => by omega))
theorem nodup_map {α β : Type} {f : α → β} {l : List α} (hf : ∀ x y, x ∈ l → y ∈ l → f x = f y → x = y) (h : l.Nodup) : (l.map f).Nodup := by
 rw [List.Nodup, List.pairwise_map]
 exact h.imp_of_mem (fun {a b} ha hb hab e => hab (hf a b ha hb e))
theorem words_nodup : ∀ (r a b : Nat), (wordsC r a b).Nodup := by
 intro r
 induction r with
 | zero => intro a b; simp [wordsC]
 | succ r ih =>
  intro a b
  simp only [wordsC]
  refine List.nodup_append.2 ⟨?_, ?_, ?_⟩
  · split
    · exact nodup_map (fun x y _ _ h => (List.cons.inj h).2) (ih _ _)
    · exact List.nodup_nil
  · split
    · exact nodup_map (fun x y _ _ h => (List.cons.inj h).2) (ih _ _)
    · exact List.nodup_nil
  · intro x hx y hy e
    split at hx
    · split at hy
      · obtain ⟨u, _, rfl⟩ := List.mem_map.1 hx
        obtain ⟨v, _, rfl⟩ := List.mem_map.1 hy
        have := (List.cons.inj e).1
        omega
      · cases hy
    · cases hx
theorem tidy_count {o : List Int} (h : isOrd o = true) : (tidyG (outL o)).length = (wsL o.length).length := by
 have hnd : (outL o).Nodup := by
  unfold outL
  refine nodup_map ?_ (words_nodup _ _ _)
  intro x y hx hy e
  obtain ⟨x1, x2, _⟩ := wsL_mem hx
  obtain ⟨y1, y2, _⟩ := wsL_mem hy
  have e1 := toL_run x2 x1 (ord_nodup h)
  have e2 := toL_run y2 y1 (ord_nodup h)
  rw [e] at e1
  rw [e1] at e2
  exact (Prod.mk.inj e2).1
 have hst : (tidyG (outL o)).Nodup := (tidyG_strict (outL o)).imp (fun {a b} hab e => by
  subst e
  have : ltL a a = false := by
   unfold ltL
   have : ∀ l : List Int, lexC l l = 0 := by
    intro l
    induction l with
    | nil => rfl
    | cons c s ih => simp [lexC, ih]
   rw [this]; rfl
  rw [this] at hab; cases hab)
 have hp := (List.perm_ext_iff_of_nodup hst hnd).2 (fun a => tidyG_mem (outL o) a)
 rw [hp.length_eq]
 unfold outL; rw [List.length_map]
theorem drawRW_ok {l : List Int} (hl : byteL l) : ∃ o w, Ev (fun k => spec_DrawRunWord.f k l) (o, w) ∧ o.length ≤ 8 ∧ w.size ≤ 100 := by
 obtain ⟨v, hv, hv8, hv0, hv1⟩ := order_ok hl 0 0 (by omega) (by omega)
 obtain ⟨b, s3, s4, hb, hb1, hb2⟩ := one_any hl v.2.1 v.2.2 24 hv0 (by omega) (by omega) (by omega)
 cases b with
 | true =>
  obtain ⟨u, hu, hu1, _⟩ := word_ok hl (v.1.length + 1) (by omega) s3 s4 (by omega) (by omega)
  refine ⟨v.1, u.1, ?_, hv8, by omega⟩
  unfold spec_DrawRunWord.f
  refine ev_bind hv ?_
  rw [hb]
  refine ev_let (ev_pos rfl ?_)
  rw [wrap_of (x := (v.1.length : Int) + 1) (by omega) (by omega), show (v.1.length : Int) + 1 = ((v.1.length + 1 : Nat) : Int) by omega]
  exact ev_bind hu (ev_now rfl)
 | false =>
  obtain ⟨u, hu, hu1, _⟩ := word_ok hl v.1.length (by omega) s3 s4 (by omega) (by omega)
  refine ⟨v.1, u.1, ?_, hv8, by omega⟩
  unfold spec_DrawRunWord.f
  refine ev_bind hv ?_
  rw [hb]
  exact ev_let (ev_neg (by simp) (ev_bind hu (ev_now rfl)))
theorem drawWT_ok {l : List Int} (hl : byteL l) : ∃ a b, Ev (fun k => spec_DrawWordTo.f k l) (a, b) ∧ a.length ≤ 8 ∧ b.length ≤ 20 := by
 obtain ⟨v, hv, hv8, hv0, hv1⟩ := order_ok hl 0 0 (by omega) (by omega)
 obtain ⟨u, hu, hu1, hu2, hu3⟩ := word_ok hl v.1.length (by omega) v.2.1 v.2.2 hv0 (by omega)
 have J0 : ∀ s1 s2, 0 ≤ s1 → s1 ≤ 1000 → ∃ b, Ev (fun k => spec_DrawWordTo.j0 k v.1 u.1 false l s1 s2) (v.1, b) ∧ b.length ≤ 20 := by
  intro s1 s2 h0 h1
  obtain ⟨q, hq, hq8, _⟩ := order_ok hl s1 s2 h0 (by omega)
  refine ⟨q.1, ev_succ ?_, by omega⟩
  simp only [spec_DrawWordTo.j0.eq_2]
  exact ev_neg (by simp) (ev_bind hq (ev_now rfl))
 have hwd := spec_word_ev u.1 (v.1.length : Int) (by omega) (by omega) (by omega)
 by_cases h : isOrd v.1 = true
 · by_cases h2 : (decide ((u.1.size : Int) = 2 * (v.1.length : Int)) && wGo (bytesOf u.1) 0) = true
   · obtain ⟨b, s3, s4, hb, hb1, hb2⟩ := one_any hl u.2.1 u.2.2 4 hu2 (by omega) (by omega) (by omega)
     cases b with
     | true =>
      obtain ⟨c, hc, hc2⟩ := J0 s3 s4 (by omega) (by omega)
      refine ⟨v.1, c, ?_, hv8, hc2⟩
      unfold spec_DrawWordTo.f
      refine ev_bind hv (ev_bind hu (ev_bind (spec_order_ev v.1 (by omega)) (ev_pos h (ev_bind hwd (ev_pos h2 ?_)))))
      rw [hb]
      exact ev_let hc
     | false =>
      simp only [Bool.and_eq_true, decide_eq_true_eq] at h2
      have hr := spec_run_ev v.1 u.1 (ord_len h).2 h2.2 (by omega)
      refine ⟨v.1, runL v.1 (bytesOf u.1), ?_, hv8, ?_⟩
      · unfold spec_DrawWordTo.f
        refine ev_bind hv (ev_bind hu (ev_bind (spec_order_ev v.1 (by omega)) (ev_pos h (ev_bind hwd (ev_pos (by simp only [Bool.and_eq_true, decide_eq_true_eq]; exact h2) ?_)))))
        rw [hb]
        refine ev_let (ev_succ ?_)
        simp only [spec_DrawWordTo.j0.eq_2]
        exact ev_pos (by trivial) (ev_bind hr (ev_now rfl))
      · have := runGo_length (bytesOf u.1) v.1 [] []
        unfold runL
        rw [bytes_len] at this
        simp at this
        omega
   · obtain ⟨c, hc, hc2⟩ := J0 u.2.1 u.2.2 (by omega) (by omega)
     refine ⟨v.1, c, ?_, hv8, hc2⟩
     unfold spec_DrawWordTo.f
     exact ev_bind hv (ev_bind hu (ev_bind (spec_order_ev v.1 (by omega)) (ev_pos h (ev_bind hwd (ev_neg h2 hc)))))
 · obtain ⟨c, hc, hc2⟩ := J0 u.2.1 u.2.2 (by omega) (by omega)
   refine ⟨v.1, c, ?_, hv8, hc2⟩
   unfold spec_DrawWordTo.f
   exact ev_bind hv (ev_bind hu (ev_bind (spec_order_ev v.1 (by omega)) (ev_neg h hc)))
theorem drawMW_ok {l : List Int} (hl : byteL l) : ∃ x, Ev (fun k => spec_DrawMirrorWord.f k l) x ∧ x.size ≤ 100 := by
 obtain ⟨y, s3, s4, hy, hm, hs, hs'⟩ := among_ok hl 0 0 [3, 4, 2, 5, 1, 7, 0, 8, 6] (by omega) (by omega) (by decide) (by decide)
 have hr : 0 ≤ y ∧ y ≤ 8 := by
  simp only [List.mem_cons, List.not_mem_nil, or_false] at hm
  omega
 obtain ⟨n, rfl⟩ : ∃ n : Nat, y = (n : Int) := ⟨y.toNat, by omega⟩
 obtain ⟨u, hu, hu1, _⟩ := word_ok hl n (by omega) s3 s4 (by omega) (by omega)
 refine ⟨u.1, ?_, by omega⟩
 unfold spec_DrawMirrorWord.f spec_DrawIsWord.f
 rw [hy]
 exact ev_bind (ev_let (ev_bind hu (ev_now rfl))) (ev_now rfl)
theorem drawOO_ok {l : List Int} (hl : byteL l) : ∃ y, Ev (fun k => spec_DrawOutputsOf.f k l) y ∧ y.length ≤ 8 := by
 obtain ⟨v, hv, hv8, hv0, hv1⟩ := order_ok hl 0 0 (by omega) (by omega)
 by_cases h : (v.1.length : Int) > 5
 · obtain ⟨b, s3, s4, hb, hb1, hb2⟩ := one_any hl v.2.1 v.2.2 6 hv0 (by omega) (by omega) (by omega)
   cases b with
   | true =>
    refine ⟨v.1, ?_, hv8⟩
    unfold spec_DrawOutputsOf.f
    refine ev_bind hv (ev_pos h ?_)
    rw [hb]
    exact ev_let (ev_pos rfl (ev_now rfl))
   | false =>
    refine ⟨[3, 1, 2, 4], ?_, by decide⟩
    unfold spec_DrawOutputsOf.f
    refine ev_bind hv (ev_pos h ?_)
    rw [hb]
    exact ev_let (ev_neg (by simp) (ev_now rfl))
 · refine ⟨v.1, ?_, hv8⟩
   unfold spec_DrawOutputsOf.f
   exact ev_bind hv (ev_neg h (ev_now rfl))
theorem spec_words_ev (n : Int) : Ev (fun k => spec_WordsOf.f k n) (wordsR n) := by
 unfold spec_WordsOf.f wordsR
 refine ev_bind (in_ev _ _ _) ?_
 by_cases h : 1 ≤ n ∧ n ≤ 7
 · rw [if_pos h]
   refine ev_pos (by simp; omega) (ev_bind (a := (wordsC (n.toNat + n.toNat) n.toNat n.toNat).map strOfNums) ?_ (ev_now rfl))
   have := spec_words_r (n.toNat + n.toNat) n.toNat n.toNat n.toNat [] rfl (Nat.le_refl _) (by simp; omega) (by omega)
   rw [str_nil, show ((n.toNat : Nat) : Int) = n by omega, show ((n.toNat - n.toNat : Nat) : Int) = 0 by omega] at this
   exact this
 · rw [if_neg h]
   exact ev_neg (by simp; omega) (ev_now rfl)
theorem impl_words_ev (n : Int) : Ev (fun k => impl_WordsOf.f k n) (wordsR n) := by
 unfold impl_WordsOf.f wordsR
 refine ev_bind (isSize_ev _) ?_
 by_cases h : 1 ≤ n ∧ n ≤ 7
 · rw [if_pos h]
   refine ev_pos (by simp; omega) (ev_bind (a := (wordsC (n.toNat + n.toNat) n.toNat n.toNat).map strOfNums) ?_ (ev_now rfl))
   have h2 : (2 : Nat) ^ (n.toNat + n.toNat) ≤ 2 ^ 14 := Nat.pow_le_pow_right (by omega) (by omega)
   have h3 : (2 : Nat) ^ 14 = 16384 := by decide
   have := impl_words_r (n.toNat + n.toNat) n.toNat n.toNat [] [] rfl (Nat.le_refl _) (by simp; omega) (by simp; omega)
   rw [str_nil, show ((n.toNat : Nat) : Int) = n by omega] at this
   exact this
 · rw [if_neg h]
   exact ev_neg (by simp; omega) (ev_now rfl)
theorem ws_ok {w : ByteArray} {n : Nat} (hsz : w.size = 2 * n) (h1 : 1 ≤ n) (h7 : n ≤ 7) (hg : wGo (bytesOf w) 0 = true) : isWd (bytesOf w) = true := by
 unfold isWd
 rw [bytes_len, hg, Bool.and_true, Bool.and_eq_true, decide_eq_true_eq, decide_eq_true_eq]
 omega
theorem FnStackWords : laws_FnStackWords.Pure := by
 intro l hm ha hw
 by_cases hbig : (l.length : Int) > 65536
 · exact .inl (by unfold laws_rBig.f; rw [decide_eq_true hbig])
 refine .inr ⟨by unfold laws_rBig.f; rw [decide_eq_false hbig], ?_⟩
 have hl : byteL l := ⟨by omega, fun x hx => by have := hw x hx; simp [Lit.wf] at this; exact ⟨this.1, this.2⟩⟩
 obtain ⟨o, w, hrw, hol, hwl⟩ := drawRW_ok hl
 obtain ⟨a, b, hab, hal, hbl⟩ := drawWT_ok hl
 obtain ⟨x, hx, hxl⟩ := drawMW_ok hl
 obtain ⟨n, s3, s4, hn, _⟩ := pick_any hl 0 0 9 (by omega) (by omega) (by omega) (by omega)
 have hdn : spec_DrawWordsOf.f l = some n := by unfold spec_DrawWordsOf.f; rw [hn]; rfl
 obtain ⟨y, hy, hyl⟩ := drawOO_ok hl
 have m1 := spec_mirror_ev x (by omega)
 have m2 := impl_mirrorword_ev x (by omega)
 have d1 := spec_depthof_ev x (by omega)
 have d2 := impl_depthof_ev x (by omega)
 have qm : mirrorR x = ((mirrorR x).1, isWd (bytesOf x)) := by
  by_cases h : isWd (bytesOf x) = true
  · unfold mirrorR; rw [onWd_pos h, h]
  · unfold mirrorR; rw [onWd_neg h, Bool.eq_false_iff.2 h]
 have qd : depthR x = ((depthR x).1, isWd (bytesOf x)) := by
  by_cases h : isWd (bytesOf x) = true
  · unfold depthR; rw [if_pos h, h]
  · unfold depthR; rw [if_neg h, Bool.eq_false_iff.2 h]
 rw [qm] at m1 m2
 rw [qd] at d1 d2
 have hok1 := opR_ok y
 have hwn := wordsR_length n
 have hrl := runR_length o w
 refine ⟨o, (runR o w).1, a, b, y, w, (toR a b).1, x, (mirrorR x).1, (wordsR n).1, (opR y).1, n, (depthR x).1, (runR o w).2, (toR a b).2, isWd (bytesOf x), (wordsR n).2, (opR y).2, ?_⟩
 refine ⟨?e1, hrw, impl_runword_ev o w (by omega) (by omega), spec_runword_ev o w (by omega) (by omega), rInts_ev _ (by omega), hab, impl_wt_ev a b (by omega) (by omega), spec_wt_ev a b (by omega) (by omega), hx, m2, m1, isword_ev x (by omega), d2, d1, hdn, impl_words_ev n, spec_words_ev n, rTexts_ev _ (by omega), hy, op_impl_ev y (by omega), op_spec_ev y (by omega), rLists_ev _ hok1.1 (fun r hr => of_decide_eq_true (List.all_eq_true.1 hok1.2 r hr)), ?hone, ?htwo, ?hfive, ?hok⟩
 case e1 => unfold laws_rBig.f; rw [decide_eq_false hbig]
 case hone =>
  intro h1
  by_cases h : isOrd a = true ∧ isOrd b = true ∧ a.length = b.length
  · have hq : toR a b = toW a b := if_pos h
    rw [hq] at h1 ⊢
    have h2 : toL a b = ((toL a b).1, true) := by
     have : (toL a b).2 = true := h1
     rw [← this]
    obtain ⟨r1, r2, r3, r4⟩ := run_toL h2 h.2.2
    have hlen := ord_len h.1
    have hb1 : bytesOf (toW a b).1 = (toL a b).1 := bytes_str (fun c hc => by rcases r4 c hc with rfl | rfl <;> omega)
    have hsz : (toW a b).1.size = 2 * a.length := by rw [← bytes_len, hb1]; exact r3
    have hwd := ws_ok hsz hlen.1 hlen.2 (by rw [hb1]; exact r2)
    have h3 := impl_runword_ev a (toW a b).1 (by omega) (by omega)
    have h4 : runR a (toW a b).1 = (runL a (bytesOf (toW a b).1), true) := if_pos ⟨h.1, hwd, hsz⟩
    rw [h4, hb1, r1] at h3
    exact ⟨h3, rInts_ev _ (by omega)⟩
  · have hq : toR a b = ((⟨#[]⟩ : ByteArray), false) := if_neg h
    rw [hq] at h1; cases h1
 case htwo =>
  intro h1
  obtain ⟨k1, k2, k3, k4⟩ := mir_ok h1
  have hq : mirrorR x = (strOfNums (mirrorL (bytesOf x)), true) := onWd_pos h1
  have hb : bytesOf (mirrorR x).1 = mirrorL (bytesOf x) := by rw [hq]; exact bytes_str k4
  have hsz : (mirrorR x).1.size ≤ 140737488351232 := by
   rw [← bytes_len, hb]; simp [mirrorL, bytes_len]; omega
  have h2 := impl_mirrorword_ev (mirrorR x).1 hsz
  have h3 := impl_depthof_ev (mirrorR x).1 hsz
  have e2 : mirrorR (mirrorR x).1 = (x, true) := by
   have : mirrorR (mirrorR x).1 = (strOfNums (mirrorL (bytesOf (mirrorR x).1)), true) := onWd_pos (by rw [hb]; exact k1)
   rw [this, hb, k2, str_bytes]
  have e3 : depthR (mirrorR x).1 = ((depthR x).1, true) := by
   have q1 : depthR (mirrorR x).1 = (wDeep (bytesOf (mirrorR x).1) 0 0, true) := if_pos (by rw [hb]; exact k1)
   have q2 : depthR x = (wDeep (bytesOf x) 0 0, true) := if_pos h1
   rw [q1, q2, hb, k3]
  rw [e2] at h2
  rw [e3] at h3
  exact ⟨h2, h3⟩
 case hfive =>
  intro h1
  have hyo : isOrd y = true := by
   by_cases h : isOrd y = true
   · exact h
   · have hq : opR y = ([], false) := by unfold opR; rw [onOrd_neg h]
     rw [hq] at h1; cases h1
  have hlen := ord_len hyo
  have hq : opR y = (tidyG (outL y), true) := by unfold opR; rw [onOrd_pos hyo]
  have hw := impl_words_ev (y.length : Int)
  have hwq : wordsR (y.length : Int) = ((wsL y.length).map strOfNums, true) := by
   unfold wordsR
   rw [if_pos ⟨by omega, by omega⟩]; simp [wsL]
  rw [hwq] at hw
  exact ⟨(wsL y.length).map strOfNums, hw, by rw [hq, List.length_map]; exact (tidy_count hyo).symm⟩
 case hok =>
  intro h1
  by_cases h : isOrd o = true ∧ isWd (bytesOf w) = true ∧ w.size = 2 * o.length
  · have hq : runR o w = (runL o (bytesOf w), true) := if_pos h
    rw [hq]
    have hlen := ord_len h.1
    have hg : wGo (bytesOf w) 0 = true := by
     have := h.2.1
     unfold isWd at this
     simp only [Bool.and_eq_true] at this
     exact this.2
    have hbl : (bytesOf w).length = 2 * o.length := by rw [bytes_len]; exact h.2.2
    have hp := run_perm (bytesOf w) o [] (by simpa using hg) (by simpa using hbl)
    rw [List.append_nil, ← runL_F] at hp
    have hord : isOrd (runL o (bytesOf w)) = true := ord_of_perm hlen.1 hlen.2 (hp.trans (ord_perm h.1).symm)
    have ht := toL_run hg hbl (ord_nodup h.1)
    have h3 := impl_wt_ev o (runL o (bytesOf w)) (by omega) (by rw [hp.length_eq]; omega)
    have h4 : toR o (runL o (bytesOf w)) = (w, true) := by
     have : toR o (runL o (bytesOf w)) = toW o (runL o (bytesOf w)) := if_pos ⟨h.1, hord, hp.length_eq.symm⟩
     rw [this]
     unfold toW
     rw [ht, str_bytes]
    rw [h4] at h3
    exact h3
  · have hq : runR o w = ([], false) := if_neg h
    rw [hq] at h1; cases h1
end Go.Proofs.Ytlkddcabjcejdaa.Pure
