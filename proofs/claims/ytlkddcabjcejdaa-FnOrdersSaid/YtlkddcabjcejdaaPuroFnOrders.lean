/- The pure statement of FnOrders. No condition. -/
import Derived.Test.YtlkddcabjcejdaaMFnOrdersx12
import Derived.Test.YtlkddcabjcejdaaBase
import Derived.Test.YtlkddcabjcejdaaBaseP
import Derived.Test.YtlkddcabjcejdaaBaseW
import Derived.Test.YtlkddcabjcejdaaBaseR
import Derived.Test.YtlkddcabjcejdaaBaseO
import Derived.Test.YtlkddcabjcejdaaBaseA
import Derived.Test.YtlkddcabjcejdaaBaseF
import Derived.Test.YtlkddcabjcejdaaBaseG
namespace Go.Proofs.Ytlkddcabjcejdaa.Pure
open Go Go.RowKit Go.Proofs.Ytlkddcabjcejdaa.MFnOrders Go.Proofs.YtlkddcabjcejdaaW.PrintWords Go.Proofs.Ytlkddcabjcejdaa.Base
set_option linter.unusedVariables false
set_option linter.unusedSimpArgs false
/-! ### the drawing functions -/
theorem u64_eq (n : Int) : IntKind.u64.wrap n = n % 18446744073709551616 := rfl
theorem and_ok (Y : Int) : 0 ≤ wrap64 (Go.bits .and .u64 (IntKind.u64.wrap Y / 1099511627776) 255) ∧ wrap64 (Go.bits .and .u64 (IntKind.u64.wrap Y / 1099511627776) 255) ≤ 255 := by
  rw [u64_eq]
  obtain ⟨m, hm⟩ : ∃ m : Nat, (Y % 18446744073709551616) / 1099511627776 = (m : Int) := ⟨((Y % 18446744073709551616) / 1099511627776).toNat, by omega⟩
  have hlt : m < 18446744073709551616 := by omega
  rw [hm, show (255 : Int) = ((255 : Nat) : Int) from rfl, Go.bits_and_u64_nat m 255 hlt (by omega)]
  have h2 : m &&& 255 ≤ 255 := Nat.and_le_right
  rw [wrap_of (by omega) (by omega)]
  omega
def byteL (l : List Int) : Prop := l.length ≤ 65536 ∧ ∀ x ∈ l, 0 ≤ x ∧ x ≤ 255
theorem rd_byte {l : List Int} (hl : byteL l) (i : Int) (h0 : 0 ≤ i) (h1 : i < (l.length : Int)) : 0 ≤ rd l i ∧ rd l i ≤ 255 := by
  have hi : i.toNat < l.length := by omega
  have e : rd l i = l[i.toNat] := by simp [rd, List.getD_eq_getElem?_getD, List.getElem?_eq_getElem hi]
  rw [e]
  exact hl.2 _ (List.getElem_mem hi)
theorem next_ok {l : List Int} (hl : byteL l) (s1 s2 : Int) (h0 : 0 ≤ s1) (h1 : s1 ≤ 1000000) : ∃ b s2', spec_l1Cur_next.f l s1 s2 = some (b, s1 + 1, s2') ∧ 0 ≤ b ∧ b ≤ 255 := by
  unfold spec_l1Cur_next.f
  rw [wrap_of (x := s1 + 1) (by omega) (by omega)]
  by_cases h : s1 < (l.length : Int)
  · have hr := rd_byte hl s1 h0 h
    rw [if_pos h, if_pos h0]
    by_cases h2 : s1 + 1 ≤ (l.length : Int)
    · rw [if_pos h2]
      exact ⟨_, _, rfl, by rw [wrap_of (by omega) (by omega)]; exact hr.1, by rw [wrap_of (by omega) (by omega)]; exact hr.2⟩
    · rw [if_neg h2]
      exact ⟨_, _, rfl, (and_ok _).1, (and_ok _).2⟩
  · rw [if_neg h]
    by_cases h2 : s1 + 1 ≤ (l.length : Int)
    · rw [if_pos h2]
      exact ⟨_, _, rfl, by omega, by omega⟩
    · rw [if_neg h2]
      exact ⟨_, _, rfl, (and_ok _).1, (and_ok _).2⟩
theorem pick_ok {l : List Int} (hl : byteL l) (s1 s2 n : Int) (h0 : 0 ≤ s1) (h1 : s1 ≤ 1000000) (hn : 2 ≤ n) (hn2 : n ≤ 200) : ∃ b s2', spec_l1Cur_pick.f l s1 s2 n = some (b, s1 + 1, s2') ∧ 0 ≤ b ∧ b < n := by
  obtain ⟨b, s2', hb, hb0, hb1⟩ := next_ok hl s1 s2 h0 h1
  unfold spec_l1Cur_pick.f
  rw [if_neg (by omega), hb]
  simp only [Option.bind_some]
  rw [if_neg (by omega), if_neg (by omega)]
  refine ⟨_, _, rfl, ?_, ?_⟩
  · rw [Int.tmod_eq_emod_of_nonneg hb0]; exact Int.emod_nonneg _ (by omega)
  · rw [Int.tmod_eq_emod_of_nonneg hb0]; exact Int.emod_lt_of_pos _ (by omega)

/-! ### the drawing functions that draw orders -/
theorem pick_any {l : List Int} (hl : byteL l) (s1 s2 n : Int) (h0 : 0 ≤ s1) (h1 : s1 ≤ 1000000) (hn : 1 ≤ n) (hn2 : n ≤ 200) : ∃ b s1' s2', spec_l1Cur_pick.f l s1 s2 n = some (b, s1', s2') ∧ 0 ≤ b ∧ b < n ∧ s1 ≤ s1' ∧ s1' ≤ s1 + 1 := by
  by_cases h : n = 1
  · subst h
    exact ⟨0, s1, s2, by unfold spec_l1Cur_pick.f; rw [if_pos (by omega)], by omega, by omega, by omega, by omega⟩
  · obtain ⟨b, s2', hb, hb0, hb1⟩ := pick_ok hl s1 s2 n h0 h1 (by omega) hn2
    exact ⟨b, s1 + 1, s2', hb, hb0, hb1, by omega, by omega⟩
theorem among_ok {l : List Int} (hl : byteL l) (s1 s2 : Int) (xs : List Int) (h0 : 0 ≤ s1) (h1 : s1 ≤ 1000000) (hn : 1 ≤ xs.length) (hn2 : xs.length ≤ 200) : ∃ x s1' s2', spec_l1Cur_among.f l s1 s2 xs = some (x, s1', s2') ∧ x ∈ xs ∧ s1 ≤ s1' ∧ s1' ≤ s1 + 1 := by
  obtain ⟨b, s1', s2', hb, hb0, hb1, hs, hs'⟩ := pick_any hl s1 s2 (xs.length : Int) h0 h1 (by omega) (by omega)
  unfold spec_l1Cur_among.f
  rw [hb]
  simp only [Option.bind_some]
  rw [if_pos hb0, if_pos hb1]
  refine ⟨_, _, _, rfl, ?_, hs, hs'⟩
  have hi : b.toNat < xs.length := by omega
  have e : rd xs b = xs[b.toNat] := by simp [rd, List.getD_eq_getElem?_getD, List.getElem?_eq_getElem hi]
  rw [e]
  exact List.getElem_mem hi
theorem own_ok (x : List Int) (h : x.length ≤ 1000) : spec_l1Own.f x = some x := by
  unfold spec_l1Own.f
  simp only [Option.bind_some, List.length_nil, Nat.zero_add, List.nil_append]
  rw [if_pos (by omega)]
theorem order_l {l : List Int} (hl : byteL l) : ∀ (d : Nat) (x : List Int) (s1 s2 : Int), x.length + d ≤ 7 → 1 ≤ x.length + d → 0 ≤ s1 → s1 + d ≤ 900000 →
    ∃ v, Ev (fun k => spec_l1Cur_order.l0 k x (d : Int) l s1 s2) v ∧ v.1.length ≤ 8 ∧ 0 ≤ v.2.1 ∧ v.2.1 ≤ s1 + d + 3 := by
  intro d
  induction d with
  | zero =>
    intro x s1 s2 hx hx1 h0 h1
    obtain ⟨p, s3, s4, hp, hp0, hp1, hs, hs'⟩ := pick_any hl s1 s2 40 h0 (by omega) (by omega) (by omega)
    by_cases hz : p = 0
    · refine ⟨([], s3, s4), ev_succ ?_, by simp, by simp only; omega, by simp only; omega⟩
      simp only [spec_l1Cur_order.l0.eq_2, hp]
      exact ev_neg (by omega) (ev_let (ev_pos hz (ev_now rfl)))
    · by_cases hz1 : p = 1
      · obtain ⟨q, s5, s6, hq, hq0, hq1, ht, ht'⟩ := pick_any hl s3 s4 (x.length : Int) (by omega) (by omega) (by omega) (by omega)
        obtain ⟨y, s7, s8, hy, _, hu, hu'⟩ := among_ok hl s5 s6 [0, 1, 8, (-1)] (by omega) (by omega) (by decide) (by decide)
        refine ⟨(x.set q.toNat y, s7, s8), ev_succ ?_, by simp; omega, by simp only; omega, by simp only; omega⟩
        simp only [spec_l1Cur_order.l0.eq_2, hp]
        refine ev_neg (by omega) (ev_let (ev_neg hz (ev_pos hz1 ?_)))
        simp only [hq]
        refine ev_let ?_
        simp only [hy]
        exact ev_let (ev_pos hq0 (ev_pos hq1 (ev_now rfl)))
      · by_cases hz2 : p = 2
        · refine ⟨([1, 2, 3, 4, 5, 6, 7, 8], s3, s4), ev_succ ?_, by simp, by simp only; omega, by simp only; omega⟩
          simp only [spec_l1Cur_order.l0.eq_2, hp]
          exact ev_neg (by omega) (ev_let (ev_neg hz (ev_neg hz1 (ev_pos hz2 (ev_now rfl)))))
        · refine ⟨(x, s3, s4), ev_succ ?_, by simp only; omega, by simp only; omega, by simp only; omega⟩
          simp only [spec_l1Cur_order.l0.eq_2, hp]
          exact ev_neg (by omega) (ev_let (ev_neg hz (ev_neg hz1 (ev_neg hz2 (ev_now rfl)))))
  | succ d ih =>
    intro x s1 s2 hx hx1 h0 h1
    obtain ⟨p, s3, s4, hp, hp0, hp1, hs, hs'⟩ := pick_any hl s1 s2 ((x.length : Int) + 1) h0 (by omega) (by omega) (by omega)
    have hw : wrap64 ((x.length : Int) + 1) = (x.length : Int) + 1 := wrap_of (by omega) (by omega)
    have hlen : ((x.take p.toNat ++ [(x.length : Int) + 1]) ++ x.drop p.toNat).length = x.length + 1 := by simp; omega
    obtain ⟨v, hv, hv1, hv2, hv3⟩ := ih ((x.take p.toNat ++ [(x.length : Int) + 1]) ++ x.drop p.toNat) s3 s4 (by rw [hlen]; omega) (by omega) (by omega) (by omega)
    refine ⟨v, ev_succ ?_, hv1, hv2, by omega⟩
    have how := own_ok (x.take p.toNat) (by simp; omega)
    simp only [spec_l1Cur_order.l0.eq_2, hw, hp]
    rw [wrap_of (x := ((d + 1 : Nat) : Int) - 1) (by omega) (by omega), show ((d + 1 : Nat) : Int) - 1 = (d : Int) by omega]
    refine ev_pos (by omega) (ev_let (ev_pos hp0 (ev_pos (by simp only; omega) ?_)))
    simp only [how]
    exact ev_let (ev_let (ev_pos (by simp; omega) (ev_let (ev_let (ev_pos (by simp; omega) hv)))))
theorem order_ok {l : List Int} (hl : byteL l) (s1 s2 : Int) (h0 : 0 ≤ s1) (h1 : s1 ≤ 800000) : ∃ v, Ev (fun k => spec_l1Cur_order.f k l s1 s2) v ∧ v.1.length ≤ 8 ∧ 0 ≤ v.2.1 ∧ v.2.1 ≤ s1 + 20 := by
  obtain ⟨y, s3, s4, hy, hm, hs, hs'⟩ := among_ok hl s1 s2 [4, 5, 3, 6, 2, 7, 1, 4] h0 (by omega) (by decide) (by decide)
  have hr : 1 ≤ y ∧ y ≤ 7 := by
    simp only [List.mem_cons, List.not_mem_nil, or_false] at hm
    omega
  obtain ⟨v, hv, hv1, hv2, hv3⟩ := order_l hl y.toNat [] s3 s4 (by simp; omega) (by simp; omega) (by omega) (by omega)
  refine ⟨v, ?_, hv1, hv2, by omega⟩
  unfold spec_l1Cur_order.f
  rw [hy]
  refine ev_let ?_
  rw [show ((y.toNat : Nat) : Int) = y by omega] at hv
  exact hv

/-! ### further drawing functions -/
theorem pick_all {l : List Int} (hl : byteL l) (s1 s2 n : Int) (h0 : 0 ≤ s1) (h1 : s1 ≤ 900000) (hn : 1 ≤ n) (hn2 : n ≤ 1000000) : ∃ b s1' s2', spec_l1Cur_pick.f l s1 s2 n = some (b, s1', s2') ∧ 0 ≤ b ∧ b < n ∧ s1 ≤ s1' ∧ s1' ≤ s1 + 2 := by
  by_cases h : n ≤ 200
  · obtain ⟨b, s1', s2', hb, h2, h3, h4, h5⟩ := pick_any hl s1 s2 n h0 (by omega) hn h
    exact ⟨b, s1', s2', hb, h2, h3, h4, by omega⟩
  · obtain ⟨b, s2', hb, hb0, hb1⟩ := next_ok hl s1 s2 h0 (by omega)
    obtain ⟨c, s3', hc, hc0, hc1⟩ := next_ok hl (s1 + 1) s2' (by omega) (by omega)
    unfold spec_l1Cur_pick.f
    rw [if_neg (by omega), hb]
    simp only [Option.bind_some]
    rw [if_pos (by omega), hc]
    simp only [Option.bind_some]
    rw [if_neg (by omega), wrap_of (x := b * 256) (by omega) (by omega), wrap_of (by omega) (by omega)]
    refine ⟨_, _, _, rfl, ?_, ?_, by omega, by omega⟩
    · rw [Int.tmod_eq_emod_of_nonneg (by omega)]; exact Int.emod_nonneg _ (by omega)
    · rw [Int.tmod_eq_emod_of_nonneg (by omega)]; exact Int.emod_lt_of_pos _ (by omega)
theorem one_any {l : List Int} (hl : byteL l) (s1 s2 n : Int) (h0 : 0 ≤ s1) (h1 : s1 ≤ 900000) (hn : 1 ≤ n) (hn2 : n ≤ 200) : ∃ b s1' s2', spec_l1Cur_one.f l s1 s2 n = some (b, s1', s2') ∧ s1 ≤ s1' ∧ s1' ≤ s1 + 1 := by
  obtain ⟨b, s3, s4, hb, _, _, hs, hs'⟩ := pick_any hl s1 s2 n h0 (by omega) hn hn2
  exact ⟨b == 0, s3, s4, by unfold spec_l1Cur_one.f; rw [hb]; rfl, hs, hs'⟩

theorem size_of_text {a : ByteArray} (h : ¬ a.toList = ([] : List UInt8)) : 1 ≤ a.size := by
  rcases Nat.eq_zero_or_pos a.size with h0 | h0
  · have e : a = ⟨#[]⟩ := ByteArray.ext (Array.eq_empty_of_size_eq_zero h0)
    exact absurd (by rw [e]; unfold ByteArray.toList; unfold ByteArray.toList.loop; rfl) h
  · exact h0
theorem spo_size (a x : ByteArray) (p : Nat) (r : Int) (hx : x.size ≤ 1) (hp : p < a.size) : (spo a x p r).size ≤ a.size + 1 := by
  unfold spo
  split
  · simp only [ByteArray.size_append, ByteArray.size_extract]; omega
  · split
    · simp only [ByteArray.size_append, ByteArray.size_extract]; omega
    · simp only [ByteArray.size_append, ByteArray.size_extract]; omega
theorem spoilt_ok {l : List Int} (hl : byteL l) (s1 s2 : Int) (a b : ByteArray) (h0 : 0 ≤ s1) (h1 : s1 ≤ 800000) (ha : a.size ≤ 100) (hb : 1 ≤ b.size) (hb2 : b.size ≤ 100) : ∃ t s1' s2', spec_l1Cur_spoilt.f l s1 s2 a b = some (t, s1', s2') ∧ t.size ≤ a.size + 1 := by
  unfold spec_l1Cur_spoilt.f
  by_cases h : a.toList = ([] : List UInt8)
  · rw [if_pos h, if_pos ⟨hb, by omega⟩]
    exact ⟨_, _, _, rfl, by rw [ByteArray.size_extract]; omega⟩
  · rw [if_neg h]
    have hs := size_of_text h
    obtain ⟨p, p1, p2, hp, hp0, hp1, hp2, hp3⟩ := pick_any hl s1 s2 (a.size : Int) h0 (by omega) (by omega) (by omega)
    obtain ⟨q, q1, q2, hq, hq0, hq1, hq2, hq3⟩ := pick_any hl p1 p2 (b.size : Int) (by omega) (by omega) (by omega) (by omega)
    obtain ⟨r, r1, r2, hr, hr0, hr1, hr2, hr3⟩ := pick_any hl q1 q2 3 (by omega) (by omega) (by omega) (by omega)
    rw [hp]
    simp only [Option.bind_some]
    rw [hq]
    simp only [Option.bind_some]
    rw [hr]
    simp only [Option.bind_some]
    rw [if_pos ⟨hp0, hp1, hq0, hq1, by omega, by omega⟩]
    exact ⟨_, _, _, rfl, spo_size _ _ _ _ (by simp only [ByteArray.size_extract]; omega) (by omega)⟩

/-! ### Is it an order? -/
theorem in_ev (a b c : Int) : Ev (fun _ => spec_l1In.f a b c) (decide (b ≤ a) && decide (a ≤ c)) := by
  unfold spec_l1In.f
  by_cases h : a ≥ b
  · refine ev_pos h (ev_now ?_)
    have : decide (b ≤ a) = true := decide_eq_true h
    rw [this]; rfl
  · refine ev_neg h (ev_now ?_)
    have : decide (b ≤ a) = false := decide_eq_false (by omega)
    rw [this]; rfl

theorem has_l (l : List Int) (x : Int) (hl : l.length ≤ 140737488351232) : ∀ (suf pre : List Int), l = pre ++ suf → Ev (fun k => spec_l1Has.l0 k l x (pre.length : Int)) (decide (x ∈ suf)) := by
  intro suf
  induction suf with
  | nil =>
    intro pre e
    have h := len_end e
    refine ev_succ ?_
    simp only [spec_l1Has.l0.eq_2]
    refine ev_neg (by omega) ?_
    exact ev_now (by simp)
  | cons c suf ih =>
    intro pre e
    have h := len_mid e
    refine ev_succ ?_
    simp only [spec_l1Has.l0.eq_2, rd_mid' e]
    refine ev_pos (by omega) (ev_pos (by omega) ?_)
    by_cases hc : c = x
    · exact ev_pos hc (ev_now (by simp [hc]))
    · refine ev_neg hc ?_
      rw [wrap_snoc (pre := pre) (c := c) (by omega)]
      refine ev_eq (ih _ (snoc_mid e)) ?_
      have : x ≠ c := fun h => hc h.symm
      simp [this]
theorem has_ev (l : List Int) (x : Int) (hl : l.length ≤ 140737488351232) : Ev (fun k => spec_l1Has.f k l x) (decide (x ∈ l)) := by
  unfold spec_l1Has.f
  exact has_l l x hl l [] rfl
theorem idx_l (l : List Int) (x : Int) (hl : l.length ≤ 140737488351232) : ∀ (suf pre : List Int), l = pre ++ suf → Ev (fun k => slices_Index_int_int.l0 k l x (l.length : Int) (pre.length : Int)) (if x ∈ suf then ((pre.length + suf.idxOf x : Nat) : Int) else -1) := by
  intro suf
  induction suf with
  | nil =>
    intro pre e
    have h := len_end e
    refine ev_succ ?_
    simp only [slices_Index_int_int.l0.eq_2]
    refine ev_neg (by omega) ?_
    exact ev_now (by simp)
  | cons c suf ih =>
    intro pre e
    have h := len_mid e
    refine ev_succ ?_
    simp only [slices_Index_int_int.l0.eq_2, rd_mid' e]
    refine ev_pos (by omega) (ev_pos (by omega) (ev_pos (by omega) ?_))
    by_cases hc : x = c
    · exact ev_pos hc (ev_now (by simp [hc]))
    · refine ev_neg hc ?_
      rw [wrap_snoc (pre := pre) (c := c) (by omega)]
      refine ev_eq (ih _ (snoc_mid e)) ?_
      have hc' : ¬ c = x := fun h => hc h.symm
      have hb : (c == x) = false := by simpa using hc'
      simp only [List.mem_cons, hc, false_or, List.idxOf_cons, hb, cond_false]
      by_cases hm : x ∈ suf
      · rw [if_pos hm, if_pos hm]; simp; omega
      · rw [if_neg hm, if_neg hm]
theorem idx_ev (l : List Int) (x : Int) (hl : l.length ≤ 140737488351232) : Ev (fun k => slices_Index_int_int.f k l x) (if x ∈ l then ((l.idxOf x : Nat) : Int) else -1) := by
  unfold slices_Index_int_int.f
  simpa using idx_l l x hl l [] rfl
theorem contains_ev (l : List Int) (x : Int) (hl : l.length ≤ 140737488351232) : Ev (fun k => slices_Contains_int_int.f k l x) (decide (x ∈ l)) := by
  unfold slices_Contains_int_int.f
  refine ev_bind (idx_ev l x hl) (ev_now ?_)
  by_cases h : x ∈ l
  · simp [h]
  · simp [h]


theorem spec_order_l (l : List Int) (hl : l.length ≤ 140737488351232) : ∀ (suf pre : List Int), l = pre ++ suf → Ev (fun k => spec_l2Order.l0 k l (pre.length : Int)) (ordGo (l.length : Int) pre suf) := by
  intro suf
  induction suf with
  | nil =>
    intro pre e
    have h := len_end e
    refine ev_succ ?_
    simp only [spec_l2Order.l0.eq_2]
    refine ev_neg (by omega) ?_
    exact ev_now rfl
  | cons c suf ih =>
    intro pre e
    have h := len_mid e
    refine ev_succ ?_
    simp only [spec_l2Order.l0.eq_2, rd_mid' e, take_mid e]
    refine ev_pos (by omega) (ev_pos (by omega) (ev_bind (in_ev _ _ _) ?_))
    by_cases hr : 1 ≤ c ∧ c ≤ (l.length : Int)
    · refine ev_pos (by simp [hr.1, hr.2]) (ev_pos (by omega) (ev_bind (has_ev pre c (by omega)) ?_))
      by_cases hc : c ∈ pre
      · exact ev_pos (by simp [hc]) (ev_now (by simp [ordGo, hc]))
      · refine ev_neg (by simp [hc]) ?_
        rw [wrap_snoc (pre := pre) (c := c) (by omega)]
        refine ev_eq (ih _ (snoc_mid e)) ?_
        simp [ordGo, hr.1, hr.2, hc]
    · refine ev_neg (by simp; omega) (ev_now ?_)
      simp only [ordGo]
      rw [if_neg (fun h => hr ⟨h.1, h.2.1⟩)]
theorem spec_order_ev (l : List Int) (hl : l.length ≤ 140737488351232) : Ev (fun k => spec_l2Order.f k l) (isOrd l) := by
  unfold spec_l2Order.f
  refine ev_bind (in_ev _ _ _) ?_
  unfold isOrd
  by_cases h : 1 ≤ l.length ∧ l.length ≤ 7
  · refine ev_pos (by simp; omega) ?_
    rw [if_pos h]
    exact spec_order_l l hl l [] rfl
  · refine ev_neg (by simp; omega) (ev_now ?_)
    rw [if_neg h]
theorem impl_order_l (l : List Int) (hl : l.length ≤ 140737488351232) : ∀ (suf pre : List Int), l = pre ++ suf → Ev (fun k => impl_isOrder.l0 k l l (l.length : Int) (pre.length : Int)) (ordGo (l.length : Int) pre suf) := by
  intro suf
  induction suf with
  | nil =>
    intro pre e
    have h := len_end e
    refine ev_succ ?_
    simp only [impl_isOrder.l0.eq_2]
    refine ev_neg (by omega) ?_
    exact ev_now rfl
  | cons c suf ih =>
    intro pre e
    have h := len_mid e
    refine ev_succ ?_
    simp only [impl_isOrder.l0.eq_2, rd_mid' e, take_mid e]
    refine ev_pos (by omega) (ev_pos (by omega) (ev_pos (by omega) ?_))
    by_cases h1 : c < 1
    · exact ev_pos h1 (ev_now (by simp only [ordGo]; rw [if_neg (fun h => by omega)]))
    refine ev_neg h1 ?_
    by_cases h2 : c > (l.length : Int)
    · exact ev_pos h2 (ev_now (by simp only [ordGo]; rw [if_neg (fun h => by omega)]))
    refine ev_neg h2 (ev_pos (by omega) (ev_bind (contains_ev pre c (by omega)) ?_))
    by_cases hc : c ∈ pre
    · exact ev_pos (by simp [hc]) (ev_now (by simp [ordGo, hc]))
    · refine ev_neg (by simp [hc]) ?_
      rw [wrap_snoc (pre := pre) (c := c) (by omega)]
      refine ev_eq (ih _ (snoc_mid e)) ?_
      simp only [ordGo]
      rw [if_pos ⟨by omega, by omega, hc⟩]
theorem impl_order_ev (l : List Int) (hl : l.length ≤ 140737488351232) : Ev (fun k => impl_isOrder.f k l) (isOrd l) := by
  have key : ∀ b : Bool, Ev (fun k => impl_isOrder.j0 k l b) (if b = true then false else ordGo (l.length : Int) [] l) := by
    intro b
    refine ev_succ ?_
    simp only [impl_isOrder.j0.eq_2]
    cases b with
    | true => exact ev_pos rfl (ev_now rfl)
    | false => exact ev_neg (by simp) (impl_order_l l hl l [] rfl)
  unfold impl_isOrder.f isOrd
  by_cases h1 : (l.length : Int) < 1
  · refine ev_pos h1 (ev_eq (key true) ?_)
    rw [if_pos rfl, if_neg (fun h => by omega)]
  · refine ev_neg h1 (ev_eq (key _) ?_)
    by_cases h2 : (l.length : Int) > 7
    · rw [if_neg (c := 1 ≤ l.length ∧ l.length ≤ 7) (fun h => by omega), if_pos (decide_eq_true h2)]
    · rw [if_pos (c := 1 ≤ l.length ∧ l.length ≤ 7) ⟨by omega, by omega⟩, if_neg (by simp; omega)]


/-! ### InverseOrder -/
theorem spec_inv_l (l : List Int) (hl : l.length ≤ 7) (hr : ∀ x ∈ l, 1 ≤ x ∧ x ≤ (l.length : Int)) : ∀ (suf pre acc : List Int), l = pre ++ suf → acc.length = l.length → Ev (fun k => spec_l2Inverse.l0 k l acc (pre.length : Int)) (invGo suf pre.length acc) := by
  intro suf
  induction suf with
  | nil =>
    intro pre acc e ho
    have h := len_end e
    refine ev_succ ?_
    simp only [spec_l2Inverse.l0.eq_2]
    exact ev_neg (by omega) (ev_now rfl)
  | cons c suf ih =>
    intro pre acc e ho
    have h := len_mid e
    have hc := hr c (by rw [e]; simp)
    refine ev_succ ?_
    simp only [spec_l2Inverse.l0.eq_2, rd_mid' e]
    rw [wrap_of (x := c - 1) (by omega) (by omega), wrap_snoc (pre := pre) (c := c) (by omega)]
    refine ev_pos (by omega) (ev_pos (by omega) (ev_pos (by omega) (ev_pos (by omega) ?_)))
    refine ev_eq (ih _ _ (snoc_mid e) ?_) ?_
    · simp [ho]
    · simp [invGo]
theorem spec_inv_ev (l : List Int) (ho : isOrd l = true) : Ev (fun k => spec_l2Inverse.f k l) (inv l) := by
  have h7 := ord_len ho
  unfold spec_l2Inverse.f
  refine ev_pos (by omega) (ev_pos (by omega) ?_)
  exact spec_inv_l l h7.2 (ord_range ho) l [] _ rfl (by simp)
theorem spec_inverse_ev (l : List Int) (hl : l.length ≤ 140737488351232) : Ev (fun k => spec_InverseOrder.f k l) (inverseR l) := by
  unfold spec_InverseOrder.f inverseR
  by_cases ho : isOrd l = true
  · rw [onOrd_pos ho]
    exact ev_bind (spec_order_ev l hl) (ev_pos ho (ev_bind (spec_inv_ev l ho) (ev_now rfl)))
  · rw [onOrd_neg ho]; exact ev_bind (spec_order_ev l hl) (ev_neg ho (ev_now rfl))
theorem impl_inv_l (l : List Int) (hl : l.length ≤ 7) (hr : ∀ x ∈ l, 1 ≤ x ∧ x ≤ (l.length : Int)) : ∀ (suf pre acc : List Int), l = pre ++ suf → acc.length = l.length → Ev (fun k => impl_InverseOrder.l0 k acc l (l.length : Int) (pre.length : Int)) (invGo suf pre.length acc, true) := by
  intro suf
  induction suf with
  | nil =>
    intro pre acc e ho
    have h := len_end e
    refine ev_succ ?_
    simp only [impl_InverseOrder.l0.eq_2]
    exact ev_neg (by omega) (ev_now rfl)
  | cons c suf ih =>
    intro pre acc e ho
    have h := len_mid e
    have hc := hr c (by rw [e]; simp)
    refine ev_succ ?_
    simp only [impl_InverseOrder.l0.eq_2, rd_mid' e]
    rw [wrap_of (x := c - 1) (by omega) (by omega), wrap_snoc (pre := pre) (c := c) (by omega)]
    refine ev_pos (by omega) (ev_pos (by omega) (ev_pos (by omega) (ev_pos (by omega) (ev_pos (by omega) ?_))))
    refine ev_eq (ih _ _ (snoc_mid e) ?_) ?_
    · simp [ho]
    · simp [invGo]
theorem impl_inverse_ev (l : List Int) (hl : l.length ≤ 140737488351232) : Ev (fun k => impl_InverseOrder.f k l) (inverseR l) := by
  unfold impl_InverseOrder.f inverseR
  by_cases ho : isOrd l = true
  · rw [onOrd_pos ho]
    have h7 := ord_len ho
    refine ev_bind (impl_order_ev l hl) (ev_pos ho (ev_pos (by omega) (ev_pos (by omega) ?_)))
    exact impl_inv_l l h7.2 (ord_range ho) l [] _ rfl (by simp)
  · rw [onOrd_neg ho]; exact ev_bind (impl_order_ev l hl) (ev_neg ho (ev_now rfl))

/-! ### BackOrder: from the last number to the first -/
theorem spec_back_loop (l : List Int) (hl : l.length ≤ 7) : ∀ (p suf acc : List Int), l = p.reverse ++ suf → acc.length + p.length ≤ 7 → Ev (fun k => spec_l2Back.l0 k l acc ((p.length : Int) - 1)) (acc ++ p) := by
  intro p
  induction p with
  | nil =>
    intro suf acc h ha
    refine ev_succ ?_
    simp only [spec_l2Back.l0.eq_2]
    exact ev_neg (by simp) (ev_now (by simp))
  | cons c p ih =>
    intro suf acc h ha
    have hll : l.length = p.length + 1 + suf.length := by rw [h]; simp; omega
    have e1 : (((c :: p).length : Nat) : Int) - 1 = (p.reverse.length : Int) := by simp
    have hm : l = p.reverse ++ c :: suf := by rw [h]; simp
    rw [e1]
    refine ev_succ ?_
    simp only [spec_l2Back.l0.eq_2]
    refine ev_pos (by simp) (ev_pos (by simp) (ev_pos (by simp; omega) (ev_pos (by omega) ?_)))
    rw [rd_mid' hm, wrap_of (by simp; omega) (by simp; omega)]
    have e2 : ((p.reverse.length : Nat) : Int) - 1 = (p.length : Int) - 1 := by simp
    rw [e2]
    exact ev_eq (ih (c :: suf) (acc ++ [c]) hm (by simp at ha ⊢; omega)) (by simp)
theorem spec_back_ev (l : List Int) (hl : l.length ≤ 7) : Ev (fun k => spec_l2Back.f k l) l.reverse := by
  unfold spec_l2Back.f
  have h := spec_back_loop l hl l.reverse [] [] (by simp) (by simpa using hl)
  rw [wrap_of (by omega) (by omega)]
  simpa using h

theorem reverse_ev (l : List Int) (hl : l.length ≤ 7) : Ev (fun k => slices_Reverse_int_int.f k l) l.reverse := by
  refine Ev.of (fun k => slices_Reverse_int_int.mono _ k) (k := 12) ?_
  match l, hl with
  | [], _ => simp [slices_Reverse_int_int.f, slices_Reverse_int_int.l0, wrap64, rd]
  | [a], _ => simp [slices_Reverse_int_int.f, slices_Reverse_int_int.l0, wrap64, rd]
  | [a, b], _ => simp [slices_Reverse_int_int.f, slices_Reverse_int_int.l0, wrap64, rd]
  | [a, b, c], _ => simp [slices_Reverse_int_int.f, slices_Reverse_int_int.l0, wrap64, rd]
  | [a, b, c, d], _ => simp [slices_Reverse_int_int.f, slices_Reverse_int_int.l0, wrap64, rd]
  | [a, b, c, d, e], _ => simp [slices_Reverse_int_int.f, slices_Reverse_int_int.l0, wrap64, rd]
  | [a, b, c, d, e, f], _ => simp [slices_Reverse_int_int.f, slices_Reverse_int_int.l0, wrap64, rd]
  | [a, b, c, d, e, f, g], _ => simp [slices_Reverse_int_int.f, slices_Reverse_int_int.l0, wrap64, rd]
  | a :: b :: c :: d :: e :: f :: g :: h :: t, hl => simp only [List.length_cons] at hl; omega
theorem clone_ev (l : List Int) (hl : l.length ≤ 1000000) : Ev (fun _ => slices_Clone_int_int.f l) l := by
  unfold slices_Clone_int_int.f
  exact ev_pos (by omega) (ev_now rfl)
theorem impl_back_ev (l : List Int) (hl : l.length ≤ 7) : Ev (fun k => impl_back.f k l) l.reverse := by
  unfold impl_back.f
  exact ev_bind (clone_ev l (by omega)) (ev_bind (reverse_ev l hl) (ev_now rfl))

def backR (l : List Int) : List Int × Bool := onOrd l [] l.reverse
theorem spec_backorder_ev (l : List Int) (hl : l.length ≤ 140737488351232) : Ev (fun k => spec_BackOrder.f k l) (backR l) := by
  unfold spec_BackOrder.f backR
  by_cases ho : isOrd l = true
  · rw [onOrd_pos ho]; exact ev_bind (spec_order_ev l hl) (ev_pos ho (ev_bind (spec_back_ev l (ord_len ho).2) (ev_now rfl)))
  · rw [onOrd_neg ho]; exact ev_bind (spec_order_ev l hl) (ev_neg ho (ev_now rfl))
theorem impl_backorder_ev (l : List Int) (hl : l.length ≤ 140737488351232) : Ev (fun k => impl_BackOrder.f k l) (backR l) := by
  unfold impl_BackOrder.f backR
  by_cases ho : isOrd l = true
  · rw [onOrd_pos ho]; exact ev_bind (impl_order_ev l hl) (ev_pos ho (ev_bind (impl_back_ev l (ord_len ho).2) (ev_now rfl)))
  · rw [onOrd_neg ho]; exact ev_bind (impl_order_ev l hl) (ev_neg ho (ev_now rfl))

/-! ### OtherOrder -/
theorem spec_other_l (l : List Int) (hl : l.length ≤ 7) : ∀ (suf pre out : List Int), l = pre ++ suf → out.length = pre.length → Ev (fun k => spec_OtherOrder.l0 k l out (pre.length : Int)) (out ++ suf.map (other l.length), true) := by
  intro suf
  induction suf with
  | nil =>
    intro pre out e ho
    have h := len_end e
    refine ev_succ ?_
    simp only [spec_OtherOrder.l0.eq_2]
    exact ev_neg (by omega) (ev_now (by simp))
  | cons c suf ih =>
    intro pre out e ho
    have h := len_mid e
    refine ev_succ ?_
    simp only [spec_OtherOrder.l0.eq_2, rd_mid' e]
    refine ev_pos (by omega) (ev_pos (by omega) (ev_pos (by omega) ?_))
    rw [wrap_snoc (pre := pre) (c := c) (by omega)]
    refine ev_eq (ih _ _ (snoc_mid e) ?_) ?_
    · simp [ho]
    · simp [other]
theorem spec_other_ev (l : List Int) (hl : l.length ≤ 140737488351232) : Ev (fun k => spec_OtherOrder.f k l) (otherR l) := by
  unfold spec_OtherOrder.f otherR
  by_cases ho : isOrd l = true
  · rw [onOrd_pos ho]; exact ev_let (ev_bind (spec_order_ev l hl) (ev_pos ho (spec_other_l l (ord_len ho).2 l [] [] rfl rfl)))
  · rw [onOrd_neg ho]; exact ev_let (ev_bind (spec_order_ev l hl) (ev_neg ho (ev_now rfl)))
theorem impl_other_l (l : List Int) (hl : l.length ≤ 7) : ∀ (suf pre out : List Int), l = pre ++ suf → out.length = pre.length → Ev (fun k => impl_OtherOrder.l0 k l out l (l.length : Int) (pre.length : Int)) (out ++ suf.map (other l.length), true) := by
  intro suf
  induction suf with
  | nil =>
    intro pre out e ho
    have h := len_end e
    refine ev_succ ?_
    simp only [impl_OtherOrder.l0.eq_2]
    exact ev_neg (by omega) (ev_now (by simp))
  | cons c suf ih =>
    intro pre out e ho
    have h := len_mid e
    refine ev_succ ?_
    simp only [impl_OtherOrder.l0.eq_2, rd_mid' e]
    refine ev_pos (by omega) (ev_pos (by omega) (ev_pos (by omega) (ev_pos (by omega) ?_)))
    rw [wrap_snoc (pre := pre) (c := c) (by omega)]
    refine ev_eq (ih _ _ (snoc_mid e) ?_) ?_
    · simp [ho]
    · simp [other]
theorem impl_other_ev (l : List Int) (hl : l.length ≤ 140737488351232) : Ev (fun k => impl_OtherOrder.f k l) (otherR l) := by
  unfold impl_OtherOrder.f otherR
  by_cases ho : isOrd l = true
  · rw [onOrd_pos ho]; exact ev_bind (impl_order_ev l hl) (ev_pos ho (impl_other_l l (ord_len ho).2 l [] [] rfl rfl))
  · rw [onOrd_neg ho]; exact ev_bind (impl_order_ev l hl) (ev_neg ho (ev_now rfl))

/-! ### factorials, the sorted order -/
theorem fact_tab : ∀ i : Fin 8, impl_factorial.f 20 ((i.val : Nat) : Int) = some ((fac i.val : Nat) : Int) := by decide +kernel
theorem fact_ev (n : Nat) (h : n ≤ 7) : Ev (fun k => impl_factorial.f k (n : Int)) ((fac n : Nat) : Int) := Ev.of (fun k => impl_factorial.mono _ k) (fact_tab ⟨n, by omega⟩)
theorem ways_tab : ∀ i : Fin 8, spec_l2Ways.f 20 ((i.val : Nat) : Int) = some ((fac i.val : Nat) : Int) := by decide +kernel
theorem ways_ev (n : Nat) (h : n ≤ 7) : Ev (fun k => spec_l2Ways.f k (n : Int)) ((fac n : Nat) : Int) := Ev.of (fun k => spec_l2Ways.mono _ k) (ways_tab ⟨n, by omega⟩)
theorem sorted_tab : ∀ i : Fin 8, impl_sorted.f 20 ((i.val : Nat) : Int) = some (iota 1 i.val) := by decide +kernel
theorem sorted_ev (n : Nat) (h : n ≤ 7) : Ev (fun k => impl_sorted.f k (n : Int)) (iota 1 n) := Ev.of (fun k => impl_sorted.mono _ k) (sorted_tab ⟨n, by omega⟩)
theorem delete_ev (l : List Int) (i : Nat) (h : i < l.length) (hl : l.length ≤ 7) : Ev (fun _ => slices_Delete_int_int.f l (i : Int) (wrap64 ((i : Int) + 1))) (l.eraseIdx i) := by
  unfold slices_Delete_int_int.f
  rw [wrap_of (by omega) (by omega)]
  refine ev_pos (by omega) (ev_pos (by omega) (ev_pos (by omega) (ev_now ?_)))
  rw [← take_drop_erase]
  simp

/-! ### RankOfOrder -/
theorem spec_rk_in (l : List Int) (hl : l.length ≤ 7) (c : Int) (i : Nat) (hi : i < l.length) (hx : rd l (i : Int) = c) (acc : Nat) (R : Int) : ∀ (suf pre : List Int) (a : Nat), l = pre ++ suf → a + suf.length ≤ 7 → acc ≤ 100000 → Ev (fun k => spec_l2Rank.l0 k l ((acc + (a + lessN c suf) * fac (l.length - 1 - i) : Nat) : Int) (wrap64 ((i : Int) + 1))) R → Ev (fun k => spec_l2Rank.l1 k l (acc : Int) (i : Int) (a : Int) (pre.length : Int)) R := by
  intro suf
  induction suf with
  | nil =>
    intro pre a e h1 hacc hR
    have h := len_end e
    refine ev_succ ?_
    simp only [spec_l2Rank.l1.eq_2]
    rw [wrap_of (x := (l.length : Int) - 1) (by omega) (by omega), wrap_of (x := (l.length : Int) - 1 - (i : Int)) (by omega) (by omega), show (l.length : Int) - 1 - (i : Int) = ((l.length - 1 - i : Nat) : Int) by omega]
    refine ev_neg (by omega) (ev_bind (ways_ev _ (by omega)) ?_)
    have hf := fac_le (n := l.length - 1 - i) (by omega)
    have ha : a ≤ 7 := by simp only [List.length_nil] at h1; omega
    have hm : a * fac (l.length - 1 - i) ≤ 7 * 5040 := Nat.mul_le_mul ha hf
    have e1 : (a : Int) * ((fac (l.length - 1 - i) : Nat) : Int) = ((a * fac (l.length - 1 - i) : Nat) : Int) := by simp
    rw [e1, wrap_of (x := ((a * fac (l.length - 1 - i) : Nat) : Int)) (by omega) (by omega), wrap_of (x := (acc : Int) + ((a * fac (l.length - 1 - i) : Nat) : Int)) (by omega) (by omega)]
    have e2 : (acc : Int) + ((a * fac (l.length - 1 - i) : Nat) : Int) = ((acc + (a + lessN c []) * fac (l.length - 1 - i) : Nat) : Int) := by simp [lessN]
    rw [e2]; exact hR
  | cons y suf ih =>
    intro pre a e h1 hacc hR
    have h := len_mid e
    simp only [List.length_cons] at h1
    refine ev_succ ?_
    simp only [spec_l2Rank.l1.eq_2, rd_mid' e, hx]
    rw [wrap_snoc (pre := pre) (c := y) (by omega)]
    refine ev_pos (by omega) (ev_pos (by omega) (ev_pos (by omega) (ev_pos (by omega) ?_)))
    rw [lessN_cons] at hR
    by_cases hc : y < c
    · refine ev_pos hc ?_
      rw [wrap_of (x := (a : Int) + 1) (by omega) (by omega), show (a : Int) + 1 = ((a + 1 : Nat) : Int) by omega]
      refine ih _ _ (snoc_mid e) (by omega) hacc ?_
      rw [if_pos hc] at hR
      rwa [show a + 1 + lessN c suf = a + (1 + lessN c suf) by omega]
    · refine ev_neg hc (ih _ _ (snoc_mid e) (by omega) hacc ?_)
      rw [if_neg hc] at hR
      simpa using hR
theorem spec_rk_l (l : List Int) (hl : l.length ≤ 7) : ∀ (suf pre : List Int) (acc : Nat), l = pre ++ suf → acc + 36000 * suf.length ≤ 300000 → (suf ≠ [] → acc ≤ 100000) → acc + rankL suf ≤ 5040 → Ev (fun k => spec_l2Rank.l0 k l (acc : Int) (pre.length : Int)) ((acc + rankL suf : Nat) : Int) := by
  intro suf
  induction suf with
  | nil =>
    intro pre acc e _ _ h1
    have h := len_end e
    refine ev_succ ?_
    simp only [spec_l2Rank.l0.eq_2]
    exact ev_neg (by omega) (ev_now (by simp [rankL]))
  | cons c suf ih =>
    intro pre acc e _ _ h1
    have h := len_mid e
    refine ev_succ ?_
    simp only [spec_l2Rank.l0.eq_2]
    rw [wrap_snoc (pre := pre) (c := c) (by omega)]
    have h0 : Ev (fun k => spec_l2Rank.l0 k l ((acc + (0 + lessN c suf) * fac (l.length - 1 - pre.length) : Nat) : Int) (wrap64 ((pre.length : Int) + 1))) ((acc + rankL (c :: suf) : Nat) : Int) := by
      simp only [rankL] at h1
      rw [wrap_snoc (pre := pre) (c := c) (by omega), show l.length - 1 - pre.length = suf.length by omega, Nat.zero_add]
      refine ev_eq (ih _ _ (snoc_mid e) (by omega) (by omega) (by omega)) ?_
      simp only [rankL]; omega
    have := spec_rk_in l hl c pre.length (by omega) (rd_mid' e) acc _ suf (pre ++ [c]) 0 (snoc_mid e) (by omega) (by omega) h0
    exact ev_pos (by omega) this
theorem spec_rankorder_ev (l : List Int) (hl : l.length ≤ 140737488351232) : Ev (fun k => spec_RankOfOrder.f k l) (rankR l) := by
  unfold spec_RankOfOrder.f rankR
  by_cases ho : isOrd l = true
  · rw [onOrd_pos ho]
    have h7 := ord_len ho
    have hr := rankL_lt l
    have hf := fac_le h7.2
    refine ev_bind (spec_order_ev l hl) (ev_pos ho (ev_bind (a := ((rankL l : Nat) : Int)) ?_ (ev_now rfl)))
    unfold spec_l2Rank.f
    have := spec_rk_l l h7.2 l [] 0 rfl (by omega) (by omega) (by omega)
    simpa using this
  · rw [onOrd_neg ho]; exact ev_bind (spec_order_ev l hl) (ev_neg ho (ev_now rfl))
theorem impl_rk_l (l : List Int) (hl : l.length ≤ 7) : ∀ (suf pre left : List Int) (acc : Nat), l = pre ++ suf → left.Pairwise (· < ·) → left.Perm suf → acc + rankL suf ≤ 5040 → Ev (fun k => impl_RankOfOrder.l0 k left (acc : Int) l (l.length : Int) (pre.length : Int)) (((acc + rankL suf : Nat) : Int), true) := by
  intro suf
  induction suf with
  | nil =>
    intro pre left acc e hs hp h1
    have h := len_end e
    refine ev_succ ?_
    simp only [impl_RankOfOrder.l0.eq_2]
    exact ev_neg (by omega) (ev_now (by simp [rankL]))
  | cons c suf ih =>
    intro pre left acc e hs hp h1
    have h := len_mid e
    have hc : c ∈ left := hp.symm.subset (by simp)
    have hlen : left.length = suf.length + 1 := by rw [hp.length_eq]; rfl
    have hi : left.idxOf c < left.length := List.idxOf_lt_length_of_mem hc
    have hidx : left.idxOf c = lessN c suf := by
      rw [idx_sorted c left hs hc, lessN_perm hp, lessN_cons, if_neg (by omega), Nat.zero_add]
    refine ev_succ ?_
    simp only [impl_RankOfOrder.l0.eq_2, rd_mid' e]
    refine ev_pos (by omega) (ev_pos (by omega) (ev_pos (by omega) (ev_bind (idx_ev left c (by omega)) ?_)))
    rw [if_pos hc]
    refine ev_bind (delete_ev left (left.idxOf c) hi (by omega)) ?_
    have hel : (left.eraseIdx (left.idxOf c)).length = suf.length := by rw [List.length_eraseIdx_of_lt hi]; omega
    rw [hel]
    refine ev_bind (fact_ev _ (by omega)) ?_
    simp only [rankL] at h1
    have e1 : ((left.idxOf c : Nat) : Int) * ((fac suf.length : Nat) : Int) = ((lessN c suf * fac suf.length : Nat) : Int) := by rw [hidx]; simp
    rw [e1, wrap_of (x := ((lessN c suf * fac suf.length : Nat) : Int)) (by omega) (by omega), wrap_of (x := (acc : Int) + ((lessN c suf * fac suf.length : Nat) : Int)) (by omega) (by omega), wrap_snoc (pre := pre) (c := c) (by omega), show (acc : Int) + ((lessN c suf * fac suf.length : Nat) : Int) = ((acc + lessN c suf * fac suf.length : Nat) : Int) by omega]
    refine ev_eq (ih _ _ _ (snoc_mid e) ?_ ?_ (by omega)) ?_
    · rw [erase_idx left c hc]
      exact hs.sublist List.erase_sublist
    · rw [erase_idx left c hc]
      have := hp.erase c
      simpa using this
    · simp only [rankL]; rw [show acc + lessN c suf * fac suf.length + rankL suf = acc + (lessN c suf * fac suf.length + rankL suf) by omega]
theorem impl_rankorder_ev (l : List Int) (hl : l.length ≤ 140737488351232) : Ev (fun k => impl_RankOfOrder.f k l) (rankR l) := by
  unfold impl_RankOfOrder.f rankR
  by_cases ho : isOrd l = true
  · rw [onOrd_pos ho]
    have h7 := ord_len ho
    have hr := rankL_lt l
    have hf := fac_le h7.2
    refine ev_bind (impl_order_ev l hl) (ev_pos ho (ev_bind (sorted_ev _ h7.2) ?_))
    have := impl_rk_l l h7.2 l [] (iota 1 l.length) 0 rfl (iota_sorted _ _) (ord_perm ho) (by omega)
    simpa using this
  · rw [onOrd_neg ho]; exact ev_bind (impl_order_ev l hl) (ev_neg ho (ev_now rfl))

/-! ### CountInversions -/
theorem spec_invs_in (l : List Int) (hl : l.length ≤ 7) (c : Int) (i : Int) (hi : 0 ≤ i ∧ i < l.length) (hx : rd l i = c) (R : Int × Bool) : ∀ (suf pre : List Int) (a : Int), l = pre ++ suf → 0 ≤ a → a + suf.length ≤ 1000 → Ev (fun k => spec_CountInversions.l0 k l (a + suf.countP (fun y => decide (c > y))) (wrap64 (i + 1))) R → Ev (fun k => spec_CountInversions.l1 k l a i (pre.length : Int)) R := by
  intro suf
  induction suf with
  | nil =>
    intro pre a e h0 h1 hR
    have h := len_end e
    refine ev_succ ?_
    simp only [spec_CountInversions.l1.eq_2]
    refine ev_neg (by omega) ?_
    simpa using hR
  | cons y suf ih =>
    intro pre a e h0 h1 hR
    have h := len_mid e
    simp only [List.length_cons] at h1
    refine ev_succ ?_
    simp only [spec_CountInversions.l1.eq_2, rd_mid' e, hx]
    rw [wrap_snoc (pre := pre) (c := y) (by omega)]
    refine ev_pos (by omega) (ev_pos (by omega) (ev_pos (by omega) (ev_pos (by omega) ?_)))
    rw [List.countP_cons] at hR
    by_cases hc : c > y
    · refine ev_pos hc ?_
      rw [wrap_of (x := a + 1) (by omega) (by omega)]
      refine ih _ _ (snoc_mid e) (by omega) (by omega) ?_
      rw [if_pos (decide_eq_true hc)] at hR
      rwa [show a + 1 + ((suf.countP (fun y => decide (c > y)) : Nat) : Int) = a + ((suf.countP (fun y => decide (c > y)) + 1 : Nat) : Int) by omega]
    · refine ev_neg hc (ih _ _ (snoc_mid e) (by omega) (by omega) ?_)
      rw [if_neg (by simpa using hc)] at hR
      simpa using hR
theorem spec_invs_l (l : List Int) (hl : l.length ≤ 7) : ∀ (suf pre : List Int) (a : Int), l = pre ++ suf → 0 ≤ a → a + 7 * suf.length ≤ 900 → Ev (fun k => spec_CountInversions.l0 k l a (pre.length : Int)) (a + invC suf, true) := by
  intro suf
  induction suf with
  | nil =>
    intro pre a e h0 h1
    have h := len_end e
    refine ev_succ ?_
    simp only [spec_CountInversions.l0.eq_2]
    exact ev_neg (by omega) (ev_now (by simp [invC]))
  | cons c suf ih =>
    intro pre a e h0 h1
    have h := len_mid e
    simp only [List.length_cons] at h1
    refine ev_succ ?_
    simp only [spec_CountInversions.l0.eq_2]
    rw [wrap_snoc (pre := pre) (c := c) (by omega)]
    have hcnt : suf.countP (fun y => decide (c > y)) ≤ suf.length := List.countP_le_length
    refine ev_pos (by omega) (spec_invs_in l hl c _ ⟨by omega, by omega⟩ (rd_mid' e) _ suf (pre ++ [c]) a (snoc_mid e) h0 (by omega) ?_)
    rw [wrap_snoc (pre := pre) (c := c) (by omega)]
    refine ev_eq (ih _ _ (snoc_mid e) (by omega) (by omega)) ?_
    simp [invC]; omega
theorem spec_invs_ev (l : List Int) (hl : l.length ≤ 140737488351232) : Ev (fun k => spec_CountInversions.f k l) (invcR l) := by
  unfold spec_CountInversions.f invcR
  by_cases ho : isOrd l = true
  · rw [onOrd_pos ho]
    have h7 := ord_len ho
    refine ev_bind (spec_order_ev l hl) (ev_pos ho ?_)
    have := spec_invs_l l h7.2 l [] 0 rfl (by omega) (by omega)
    simpa using this
  · rw [onOrd_neg ho]; exact ev_bind (spec_order_ev l hl) (ev_neg ho (ev_now rfl))
theorem impl_invs_in (l y : List Int) (c : Int) (i : Int) (R : Int) : ∀ (suf pre : List Int) (a : Int), y = pre ++ suf → y.length ≤ 7 → 0 ≤ a → a + suf.length ≤ 1000 → Ev (fun k => impl_inversions.l0 k l (a + suf.countP (fun y => decide (y > c))) l (l.length : Int) (wrap64 (i + 1))) R → Ev (fun k => impl_inversions.l1 k l a c l (l.length : Int) i y (y.length : Int) (pre.length : Int)) R := by
  intro suf
  induction suf with
  | nil =>
    intro pre a e hy h0 h1 hR
    have h := len_end e
    refine ev_succ ?_
    simp only [impl_inversions.l1.eq_2]
    refine ev_neg (by omega) ?_
    simpa using hR
  | cons x suf ih =>
    intro pre a e hy h0 h1 hR
    have h := len_mid e
    simp only [List.length_cons] at h1
    refine ev_succ ?_
    simp only [impl_inversions.l1.eq_2, rd_mid' e]
    rw [wrap_snoc (pre := pre) (c := x) (by omega)]
    refine ev_pos (by omega) (ev_pos (by omega) (ev_pos (by omega) ?_))
    rw [List.countP_cons] at hR
    by_cases hc : x > c
    · refine ev_pos hc ?_
      rw [wrap_of (x := a + 1) (by omega) (by omega)]
      refine ih _ _ (snoc_mid e) hy (by omega) (by omega) ?_
      rw [if_pos (decide_eq_true hc)] at hR
      rwa [show a + 1 + ((suf.countP (fun y => decide (y > c)) : Nat) : Int) = a + ((suf.countP (fun y => decide (y > c)) + 1 : Nat) : Int) by omega]
    · refine ev_neg hc (ih _ _ (snoc_mid e) hy (by omega) (by omega) ?_)
      rw [if_neg (by simpa using hc)] at hR
      simpa using hR
theorem impl_invs_l (l : List Int) (hl : l.length ≤ 7) : ∀ (suf pre : List Int), l = pre ++ suf → Ev (fun k => impl_inversions.l0 k l ((invC pre : Nat) : Int) l (l.length : Int) (pre.length : Int)) ((invC l : Nat) : Int) := by
  intro suf
  induction suf with
  | nil =>
    intro pre e
    have h := len_end e
    refine ev_succ ?_
    simp only [impl_inversions.l0.eq_2]
    exact ev_neg (by omega) (ev_now (by rw [e]; simp))
  | cons c suf ih =>
    intro pre e
    have h := len_mid e
    have hb := invC_le pre
    have hb2 : pre.length * pre.length ≤ 7 * 7 := Nat.mul_le_mul (by omega) (by omega)
    refine ev_succ ?_
    simp only [impl_inversions.l0.eq_2, rd_mid' e, take_mid e]
    refine ev_pos (by omega) (ev_pos (by omega) (ev_pos (by omega) (ev_pos (by omega) (ev_let ?_))))
    refine impl_invs_in l pre c _ _ pre [] _ rfl (by omega) (by omega) (by omega) ?_
    rw [wrap_snoc (pre := pre) (c := c) (by omega), show ((invC pre : Nat) : Int) + ((pre.countP (fun y => decide (y > c)) : Nat) : Int) = ((invC (pre ++ [c]) : Nat) : Int) by rw [invC_snoc]; omega]
    exact ih _ (snoc_mid e)
theorem impl_invs_ev (l : List Int) (hl : l.length ≤ 140737488351232) : Ev (fun k => impl_CountInversions.f k l) (invcR l) := by
  unfold impl_CountInversions.f invcR
  by_cases ho : isOrd l = true
  · rw [onOrd_pos ho]
    have h7 := ord_len ho
    refine ev_bind (impl_order_ev l hl) (ev_pos ho (ev_bind (a := ((invC l : Nat) : Int)) ?_ (ev_now rfl)))
    unfold impl_inversions.f
    exact impl_invs_l l h7.2 l [] rfl
  · rw [onOrd_neg ho]; exact ev_bind (impl_order_ev l hl) (ev_neg ho (ev_now rfl))

theorem num_ev (a : Int) (h0 : 0 ≤ a) (h9 : a ≤ 9) : Ev (fun k => spec_l1Num.f k a) (⟨#[digB a]⟩ : ByteArray) := by
  refine ev_succ ?_
  simp only [spec_l1Num.f]
  rw [wrap_of (x := a + 1) (by omega) (by omega)]
  refine ev_neg (by omega) (ev_pos (by omega) (ev_pos h0 (ev_pos (by omega) (ev_pos (by omega) (ev_now ?_)))))
  have : a = 0 ∨ a = 1 ∨ a = 2 ∨ a = 3 ∨ a = 4 ∨ a = 5 ∨ a = 6 ∨ a = 7 ∨ a = 8 ∨ a = 9 := by omega
  rcases this with rfl | rfl | rfl | rfl | rfl | rfl | rfl | rfl | rfl | rfl <;> rfl
theorem text_l (l : List Int) (hl : l.length ≤ 1000) (hd : ∀ n ∈ l, 0 ≤ n ∧ n ≤ 9) : ∀ (suf pre : List Int), l = pre ++ suf → Ev (fun k => spec_l2Text.l0 k l (⟨(pre.map digB).toArray⟩ : ByteArray) (pre.length : Int)) (⟨(l.map digB).toArray⟩ : ByteArray) := by
  intro suf
  induction suf with
  | nil =>
    intro pre e
    have h := len_end e
    refine ev_succ ?_
    simp only [spec_l2Text.l0.eq_2]
    refine ev_neg (by omega) ?_
    rw [List.append_nil] at e
    exact ev_now (by rw [e])
  | cons c suf ih =>
    intro pre e
    have h := len_mid e
    have hc := hd c (by rw [e]; simp)
    refine ev_succ ?_
    simp only [spec_l2Text.l0.eq_2, rd_mid' e]
    rw [wrap_snoc (pre := pre) (c := c) (by omega)]
    refine ev_pos (by omega) (ev_pos (by omega) (ev_bind (num_ev c hc.1 hc.2) (ev_pos ?_ ?_)))
    · simp [ByteArray.size]; omega
    · have e2 : (⟨(pre.map digB).toArray⟩ : ByteArray) ++ (⟨#[digB c]⟩ : ByteArray) = (⟨((pre ++ [c]).map digB).toArray⟩ : ByteArray) := by
        apply ByteArray.ext; simp [ByteArray.data_append]
      rw [e2]
      exact ih (pre ++ [c]) (snoc_mid e)
def otR (l : List Int) : ByteArray × Bool := if isOrd l = true then (⟨(l.map digB).toArray⟩, true) else (⟨#[]⟩, false)
theorem ord_digs {l : List Int} (h : isOrd l = true) : l.length ≤ 7 ∧ ∀ n ∈ l, 0 ≤ n ∧ n ≤ 9 := by
  have hl := ord_len h
  have := (isOrd_iff l).1 h
  exact ⟨hl.2, fun n hn => by have := this.2.1 n hn; omega⟩
theorem ot_spec_ev (l : List Int) (hl : l.length ≤ 140737488351232) : Ev (fun k => spec_OrderText.f k l) (otR l) := by
  unfold spec_OrderText.f
  refine ev_bind (spec_order_ev l hl) ?_
  by_cases h : isOrd l = true
  · have hd := ord_digs h
    refine ev_pos h (ev_bind (a := (⟨(l.map digB).toArray⟩ : ByteArray)) ?_ (ev_now (by unfold otR; rw [if_pos h])))
    unfold spec_l2Text.f
    exact text_l l (by omega) hd.2 l [] rfl
  · exact ev_neg h (ev_now (by unfold otR; rw [if_neg h]))
theorem ot_impl_ev (l : List Int) (hl : l.length ≤ 140737488351232) : Ev (fun k => impl_OrderText.f k l) (otR l) := by
  unfold impl_OrderText.f
  refine ev_bind (impl_order_ev l hl) ?_
  by_cases h : isOrd l = true
  · have hd := ord_digs h
    refine ev_pos h (ev_bind (a := (⟨(l.map digB).toArray⟩ : ByteArray)) ?_ (ev_now (by unfold otR; rw [if_pos h])))
    have e : impl_orderText.f l = some (⟨(l.map digB).toArray⟩ : ByteArray) := by
      unfold impl_orderText.f
      rw [if_pos ⟨by omega, hd.2⟩]
    rw [e]
    exact ev_now rfl
  · exact ev_neg h (ev_now (by unfold otR; rw [if_neg h]))

/-! ### ComposeOrders -/
theorem spec_comp_l (a b : List Int) (hb : b.length ≤ 7) (hr : ∀ x ∈ b, 1 ≤ x ∧ x ≤ (a.length : Int)) (ha : a.length ≤ 7) : ∀ (suf pre out : List Int), b = pre ++ suf → out.length = pre.length → Ev (fun k => spec_ComposeOrders.l0 k a b out (pre.length : Int)) (out ++ comp a suf, true) := by
  intro suf
  induction suf with
  | nil =>
    intro pre out e ho
    have h := len_end e
    refine ev_succ ?_
    simp only [spec_ComposeOrders.l0.eq_2]
    exact ev_neg (by omega) (ev_now (by simp [comp]))
  | cons c suf ih =>
    intro pre out e ho
    have h := len_mid e
    have hc := hr c (by rw [e]; simp)
    refine ev_succ ?_
    simp only [spec_ComposeOrders.l0.eq_2, rd_mid' e]
    rw [wrap_of (x := c - 1) (by omega) (by omega), wrap_snoc (pre := pre) (c := c) (by omega)]
    refine ev_pos (by omega) (ev_pos (by omega) (ev_pos (by omega) (ev_pos (by omega) (ev_pos (by omega) ?_))))
    refine ev_eq (ih _ _ (snoc_mid e) ?_) ?_
    · simp [ho]
    · simp [comp]
theorem spec_compose_ev (a b : List Int) (ha : a.length ≤ 140737488351232) (hb : b.length ≤ 140737488351232) : Ev (fun k => spec_ComposeOrders.f k a b) (composeR a b) := by
  have key : ∀ q : Bool, (q = false → isOrd a = true ∧ isOrd b = true ∧ a.length = b.length) → (q = true → ¬ (isOrd a = true ∧ isOrd b = true ∧ a.length = b.length)) → Ev (fun k => spec_ComposeOrders.j0 k a b [] q) (composeR a b) := by
    intro q hf ht
    refine ev_succ ?_
    simp only [spec_ComposeOrders.j0.eq_2]
    cases q with
    | true => exact ev_pos rfl (ev_now (by unfold composeR; rw [if_neg (ht rfl)]))
    | false =>
      have h := hf rfl
      refine ev_neg (by simp) (ev_eq (spec_comp_l a b (ord_len h.2.1).2 (fun x hx => ?_) (ord_len h.1).2 b [] [] rfl rfl) ?_)
      · have := ord_range h.2.1 x hx; omega
      · unfold composeR; rw [if_pos h]; rfl
  unfold spec_ComposeOrders.f
  refine ev_let (ev_bind (spec_order_ev a ha) ?_)
  by_cases h1 : isOrd a = true
  · refine ev_pos h1 (ev_bind (spec_order_ev b hb) ?_)
    by_cases h2 : isOrd b = true
    · refine ev_pos h2 (key _ (fun h => ⟨h1, h2, ?_⟩) (fun h h' => ?_))
      · simp at h; omega
      · simp at h; omega
    · exact ev_neg h2 (key true (fun h => by cases h) (fun _ h' => h2 h'.2.1))
  · exact ev_neg h1 (key true (fun h => by cases h) (fun _ h' => h1 h'.1))
theorem areOrders_ev (a b : List Int) (ha : a.length ≤ 140737488351232) (hb : b.length ≤ 140737488351232) : Ev (fun k => impl_areOrders.f k a b) (isOrd a && isOrd b && (a.length == b.length)) := by
  unfold impl_areOrders.f
  refine ev_bind (impl_order_ev a ha) ?_
  by_cases h1 : isOrd a = true
  · refine ev_pos h1 (ev_bind (impl_order_ev b hb) ?_)
    by_cases h2 : isOrd b = true
    · refine ev_pos h2 (ev_now ?_)
      rw [h1, h2]
      by_cases h : a.length = b.length
      · simp [h]
      · have h' : ((a.length : Int) == (b.length : Int)) = false := by simpa using fun e : (a.length : Int) = (b.length : Int) => h (by omega)
        have h'' : (a.length == b.length) = false := by simpa using h
        rw [h', h'']; rfl
    · refine ev_neg h2 (ev_now (by simp [h2]))
  · exact ev_neg h1 (ev_now (by simp [h1]))

theorem impl_comp_l (a b : List Int) (hb : b.length ≤ 7) (hr : ∀ x ∈ b, 1 ≤ x ∧ x ≤ (a.length : Int)) (ha : a.length ≤ 7) : ∀ (suf pre out : List Int), b = pre ++ suf → out.length = pre.length → Ev (fun k => impl_ComposeOrders.l0 k a out b (b.length : Int) (pre.length : Int)) (out ++ comp a suf, true) := by
  intro suf
  induction suf with
  | nil =>
    intro pre out e ho
    have h := len_end e
    refine ev_succ ?_
    simp only [impl_ComposeOrders.l0.eq_2]
    exact ev_neg (by omega) (ev_now (by simp [comp]))
  | cons c suf ih =>
    intro pre out e ho
    have h := len_mid e
    have hc := hr c (by rw [e]; simp)
    refine ev_succ ?_
    simp only [impl_ComposeOrders.l0.eq_2, rd_mid' e]
    rw [wrap_of (x := c - 1) (by omega) (by omega), wrap_snoc (pre := pre) (c := c) (by omega)]
    refine ev_pos (by omega) (ev_pos (by omega) (ev_pos (by omega) (ev_pos (by omega) (ev_pos (by omega) (ev_pos (by omega) ?_)))))
    refine ev_eq (ih _ _ (snoc_mid e) ?_) ?_
    · simp [ho]
    · simp [comp]
theorem impl_compose_ev (a b : List Int) (ha : a.length ≤ 140737488351232) (hb : b.length ≤ 140737488351232) : Ev (fun k => impl_ComposeOrders.f k a b) (composeR a b) := by
  unfold impl_ComposeOrders.f composeR
  refine ev_bind (areOrders_ev a b ha hb) ?_
  by_cases h : isOrd a = true ∧ isOrd b = true ∧ a.length = b.length
  · rw [if_pos h]
    refine ev_pos (by simp [h.1, h.2.1, h.2.2]) ?_
    refine impl_comp_l a b (ord_len h.2.1).2 (fun x hx => ?_) (ord_len h.1).2 b [] [] rfl rfl
    have := ord_range h.2.1 x hx; omega
  · rw [if_neg h]
    refine ev_neg (fun h' => h ?_) (ev_now rfl)
    simpa [and_assoc] using h'

theorem isSize_ev (n : Int) : Ev (fun _ => impl_isSize.f n) (decide (1 ≤ n) && decide (n ≤ 7)) := by
  unfold impl_isSize.f
  by_cases h : n ≥ 1
  · refine ev_pos h (ev_now ?_)
    have : decide (1 ≤ n) = true := decide_eq_true h
    rw [this]; rfl
  · refine ev_neg h (ev_now ?_)
    have : decide (1 ≤ n) = false := decide_eq_false (by omega)
    rw [this]; rfl

/-! ### OrderAt -/
theorem tdiv_nat (a b : Nat) : Int.tdiv (a : Int) (b : Int) = ((a / b : Nat) : Int) := (Int.ofNat_tdiv a b).symm
theorem tmod_nat (a b : Nat) : Int.tmod (a : Int) (b : Int) = ((a % b : Nat) : Int) := (Int.ofNat_tmod a b).symm
theorem rd_getD (l : List Int) (n : Nat) : rd l (n : Int) = l.getD n 0 := by unfold rd; simp
theorem own_ev (l : List Int) (h : l.length ≤ 1000000) : Ev (fun _ => spec_l1Own.f l) l := by
  unfold spec_l1Own.f
  exact ev_let (ev_pos (by simp; omega) (ev_now (by simp)))
theorem impl_at_l : ∀ (r : Nat) (left out : List Int) (k : Nat), left.length = r → r ≤ 7 → out.length + r ≤ 7 → k < fac r → Ev (fun n => impl_orderAt.l0 n (k : Int) left out) (out ++ atGo r left k) := by
  intro r
  induction r with
  | zero =>
    intro left out k hl h7 ho hk
    refine ev_succ ?_
    simp only [impl_orderAt.l0.eq_2]
    exact ev_neg (by omega) (ev_now (by simp [atGo]))
  | succ r ih =>
    intro left out k hl h7 ho hk
    have hp := fac_pos r
    have hf := fac_le (n := r) (by omega)
    have hq : k / fac r < r + 1 := by rw [fac] at hk; rw [Nat.div_lt_iff_lt_mul hp]; exact hk
    have hm : k % fac r < fac r := Nat.mod_lt _ hp
    obtain ⟨q, hqe⟩ : ∃ q, q = k / fac r := ⟨_, rfl⟩
    rw [← hqe] at hq
    refine ev_succ ?_
    simp only [impl_orderAt.l0.eq_2]
    rw [wrap_of (x := (left.length : Int) - 1) (by omega) (by omega), show (left.length : Int) - 1 = (r : Int) by omega]
    refine ev_pos (by omega) (ev_bind (fact_ev r (by omega)) ?_)
    rw [tdiv_nat, tmod_nat, ← hqe, wrap_of (x := ((q : Nat) : Int)) (by omega) (by omega)]
    refine ev_neg (by omega) (ev_pos (by omega) (ev_pos (by omega) (ev_pos (by omega) (ev_bind (delete_ev left q (by omega) (by omega)) ?_))))
    rw [rd_getD]
    refine ev_eq (ih _ _ _ (by rw [List.length_eraseIdx_of_lt (by omega)]; omega) (by omega) (by simp; omega) hm) ?_
    simp [atGo, hqe]
theorem spec_at_l : ∀ (r : Nat) (left out : List Int) (k : Nat), left.length = r → r ≤ 7 → out.length + r ≤ 7 → k < fac r → Ev (fun n => spec_l2At.l0 n (k : Int) out left) (out ++ atGo r left k) := by
  intro r
  induction r with
  | zero =>
    intro left out k hl h7 ho hk
    refine ev_succ ?_
    simp only [spec_l2At.l0.eq_2]
    exact ev_neg (by omega) (ev_now (by simp [atGo]))
  | succ r ih =>
    intro left out k hl h7 ho hk
    have hp := fac_pos r
    have hf := fac_le (n := r) (by omega)
    have hq : k / fac r < r + 1 := by rw [fac] at hk; rw [Nat.div_lt_iff_lt_mul hp]; exact hk
    have hm : k % fac r < fac r := Nat.mod_lt _ hp
    obtain ⟨q, hqe⟩ : ∃ q, q = k / fac r := ⟨_, rfl⟩
    rw [← hqe] at hq
    refine ev_succ ?_
    simp only [spec_l2At.l0.eq_2]
    rw [wrap_of (x := (left.length : Int) - 1) (by omega) (by omega), show (left.length : Int) - 1 = (r : Int) by omega]
    refine ev_pos (by omega) (ev_bind (ways_ev r (by omega)) ?_)
    rw [tdiv_nat, tmod_nat, ← hqe, wrap_of (x := ((q : Nat) : Int)) (by omega) (by omega), wrap_of (x := ((q : Nat) : Int) + 1) (by omega) (by omega)]
    refine ev_neg (by omega) (ev_pos (by omega) (ev_pos (by omega) (ev_pos (by omega) (ev_pos (by omega) (ev_bind (own_ev _ (by simp; omega)) (ev_pos (by omega) (ev_pos (by omega) (ev_let (ev_pos (by simp; omega) ?_)))))))))
    rw [rd_getD, show ((((q : Nat) : Int)).toNat) = q by omega, show (((((q : Nat) : Int)) + 1).toNat) = q + 1 by omega, take_drop_erase]
    refine ev_eq (ih _ _ _ (by rw [List.length_eraseIdx_of_lt (by omega)]; omega) (by omega) (by simp; omega) hm) ?_
    simp [atGo, hqe]
theorem spec_sorted_tab : ∀ i : Fin 8, spec_l2Sorted.f 20 ((i.val : Nat) : Int) = some (iota 1 i.val) := by decide +kernel
theorem spec_sorted_ev (n : Nat) (h : n ≤ 7) : Ev (fun k => spec_l2Sorted.f k (n : Int)) (iota 1 n) := Ev.of (fun k => spec_l2Sorted.mono _ k) (spec_sorted_tab ⟨n, by omega⟩)
theorem spec_orderat_ev (a b : Int) : Ev (fun k => spec_OrderAt.f k a b) (orderAtR a b) := by
  unfold spec_OrderAt.f orderAtR
  refine ev_bind (in_ev a 1 7) ?_
  by_cases h : 1 ≤ a ∧ a ≤ 7
  · obtain ⟨n, rfl⟩ : ∃ n : Nat, a = (n : Int) := ⟨a.toNat, by omega⟩
    have hf := fac_le (n := n) (by omega)
    have hp := fac_pos n
    refine ev_pos (by simp; omega) (ev_bind (ways_ev n (by omega)) ?_)
    rw [wrap_of (by omega) (by omega)]
    refine ev_bind (in_ev b 0 _) ?_
    by_cases h2 : 0 ≤ b ∧ b < (fac n : Int)
    · obtain ⟨k, rfl⟩ : ∃ k : Nat, b = (k : Int) := ⟨b.toNat, by omega⟩
      rw [if_pos ⟨h.1, h.2, h2.1, by simpa using h2.2⟩]
      refine ev_pos (by simp; omega) (ev_bind ?_ (ev_now rfl))
      unfold spec_l2At.f
      refine ev_bind (spec_sorted_ev n (by omega)) ?_
      exact spec_at_l n (iota 1 n) [] k (iota_length _ _) (by omega) (by simp; omega) (by omega)
    · rw [if_neg (fun hh => h2 ⟨hh.2.2.1, by simpa using hh.2.2.2⟩)]
      refine ev_neg ?_ (ev_now rfl)
      simp only [Bool.and_eq_true, decide_eq_true_eq]; omega
  · rw [if_neg (fun hh => h ⟨hh.1, hh.2.1⟩)]
    refine ev_neg ?_ (ev_now rfl)
    simp only [Bool.and_eq_true, decide_eq_true_eq]; omega
theorem impl_orderat_ev (a b : Int) : Ev (fun k => impl_OrderAt.f k a b) (orderAtR a b) := by
  unfold impl_OrderAt.f orderAtR
  refine ev_bind (isSize_ev a) ?_
  by_cases h : 1 ≤ a ∧ a ≤ 7
  · obtain ⟨n, rfl⟩ : ∃ n : Nat, a = (n : Int) := ⟨a.toNat, by omega⟩
    have hf := fac_le (n := n) (by omega)
    refine ev_pos (by simp; omega) ?_
    by_cases h3 : b < 0
    · rw [if_neg (fun hh => absurd hh.2.2.1 (by omega))]
      exact ev_pos h3 (ev_now rfl)
    refine ev_neg h3 (ev_bind (fact_ev n (by omega)) ?_)
    by_cases h2 : b < (fac n : Int)
    · obtain ⟨k, rfl⟩ : ∃ k : Nat, b = (k : Int) := ⟨b.toNat, by omega⟩
      rw [if_pos ⟨h.1, h.2, by omega, by simpa using h2⟩]
      refine ev_neg (by omega) (ev_bind ?_ (ev_now rfl))
      unfold impl_orderAt.f
      refine ev_bind (sorted_ev n (by omega)) ?_
      exact impl_at_l n (iota 1 n) [] k (iota_length _ _) (by omega) (by simp; omega) (by omega)
    · rw [if_neg (fun hh => h2 (by simpa using hh.2.2.2))]
      exact ev_pos (by omega) (ev_now rfl)
  · rw [if_neg (fun hh => h ⟨hh.1, hh.2.1⟩)]
    refine ev_neg ?_ (ev_now rfl)
    simp only [Bool.and_eq_true, decide_eq_true_eq]; omega
theorem orderAtR_length (a b : Int) : (orderAtR a b).1.length ≤ 7 := by
  unfold orderAtR; split
  · simp only [orderAtL, atGo_length]; omega
  · simp

/-! ### ParseOrder -/
theorem spec_parse_l (s : ByteArray) (hs : s.size ≤ 7) : ∀ (suf pre out : List Int), bytesOf s = pre ++ suf → out = pre.map (fun c => c - 48) → Ev (fun k => spec_l2Parse.l0 k s out (pre.length : Int)) (parseR s) := by
  intro suf
  induction suf with
  | nil =>
    intro pre out e ho
    have h := size_end e
    refine ev_succ ?_
    simp only [spec_l2Parse.l0.eq_2]
    have e2 : out = digs s := by rw [ho]; unfold digs; rw [e]; simp
    refine ev_neg (by omega) (ev_bind (spec_order_ev out (by rw [ho]; simp; omega)) ?_)
    unfold parseR
    rw [e2]
    by_cases hq : isOrd (digs s) = true
    · rw [onOrd_pos hq]; exact ev_pos hq (ev_now rfl)
    · rw [onOrd_neg hq]; exact ev_neg hq (ev_now rfl)
  | cons c suf ih =>
    intro pre out e ho
    have h := size_mid e
    have hc := bytes_range (s := s) (c := c) (by rw [e]; simp)
    refine ev_succ ?_
    simp only [spec_l2Parse.l0.eq_2, bt_mid e]
    rw [wrap_of (x := c) (by omega) (by omega), wrap_of (x := c - 48) (by omega) (by omega), wrap_snoc (pre := pre) (c := c) (by omega)]
    refine ev_pos (by omega) (ev_pos (by omega) (ev_pos (by rw [ho]; simp; omega) ?_))
    exact ih _ _ (snoc_mid e) (by rw [ho]; simp)
theorem digs_length (s : ByteArray) : (digs s).length = s.size := by unfold digs; rw [List.length_map, bytes_len]
theorem parse_long {s : ByteArray} (h : ¬ s.size ≤ 7) : parseR s = ([], false) := by
  unfold parseR
  apply onOrd_neg
  intro ho
  have := ord_len ho
  rw [digs_length] at this
  omega
theorem spec_parse_ev (s : ByteArray) : Ev (fun k => spec_l2Parse.f k s) (parseR s) := by
  unfold spec_l2Parse.f
  refine ev_let ?_
  by_cases h : (s.size : Int) > 7
  · exact ev_pos h (ev_now (parse_long (by omega)).symm)
  · exact ev_neg h (spec_parse_l s (by omega) (bytesOf s) [] [] rfl rfl)
theorem spec_parseorder_ev (s : ByteArray) : Ev (fun k => spec_ParseOrder.f k s) (parseR s) := by
  unfold spec_ParseOrder.f
  exact ev_bind (spec_parse_ev s) (ev_now rfl)
theorem impl_parse_l (s : ByteArray) (hs : s.size ≤ 140737488351232) (m : Nat) (hm : m = min s.size 8) : ∀ (suf pre out : List Int), bytesOf s = pre ++ suf → pre.length ≤ m → out = pre.map (fun c => c - 48) → Ev (fun k => impl_ParseOrder.l0 k s out (m : Int) (pre.length : Int)) (parseR s) := by
  intro suf
  have last : ∀ (suf pre out : List Int), bytesOf s = pre ++ suf → pre.length = m → out = pre.map (fun c => c - 48) → Ev (fun k => impl_ParseOrder.l0 k s out (m : Int) (pre.length : Int)) (parseR s) := by
    intro suf pre out e hp ho
    refine ev_succ ?_
    simp only [impl_ParseOrder.l0.eq_2]
    have hl : out.length = m := by rw [ho]; simpa using hp
    refine ev_neg (by omega) (ev_bind (impl_order_ev out (by omega)) ?_)
    by_cases h8 : s.size ≤ 7
    · have hb := bytes_len s
      have h0 : suf = [] := by
        have : (bytesOf s).length = pre.length + suf.length := by rw [e]; simp
        exact List.length_eq_zero_iff.1 (by omega)
      have e2 : out = digs s := by rw [ho]; unfold digs; rw [e, h0]; simp
      unfold parseR
      rw [e2]
      by_cases hq : isOrd (digs s) = true
      · rw [onOrd_pos hq]; exact ev_pos hq (ev_now rfl)
      · rw [onOrd_neg hq]; exact ev_neg hq (ev_now rfl)
    · rw [parse_long h8]
      refine ev_neg (fun hq => ?_) (ev_now rfl)
      have := ord_len hq
      omega
  induction suf with
  | nil =>
    intro pre out e hp ho
    have h := size_end e
    exact last [] pre out e (by omega) ho
  | cons c suf ih =>
    intro pre out e hp ho
    have h := size_mid e
    by_cases hlt : pre.length < m
    · have hc := bytes_range (s := s) (c := c) (by rw [e]; simp)
      refine ev_succ ?_
      simp only [impl_ParseOrder.l0.eq_2, bt_mid e]
      rw [wrap_of (x := c) (by omega) (by omega), wrap_of (x := c - 48) (by omega) (by omega), wrap_snoc (pre := pre) (c := c) (by omega)]
      refine ev_pos (by omega) (ev_pos (by omega) (ev_pos (by omega) (ev_pos (by rw [ho]; simp; omega) ?_)))
      exact ih _ _ (snoc_mid e) (by simp; omega) (by rw [ho]; simp)
    · exact last (c :: suf) pre out e (by omega) ho
theorem impl_parseorder_ev (s : ByteArray) (hs : s.size ≤ 140737488351232) : Ev (fun k => impl_ParseOrder.f k s) (parseR s) := by
  unfold impl_ParseOrder.f
  have : mn (s.size : Int) 8 = ((min s.size 8 : Nat) : Int) := by unfold mn; split <;> omega
  rw [this]
  exact impl_parse_l s hs _ rfl (bytesOf s) [] [] rfl (by simp) rfl

/-! ### laws.rInts, laws.rLists -/
theorem rInts_l (a : List Int) (ha : a.length ≤ 1048576) : ∀ (suf pre : List Int), a = pre ++ suf → Ev (fun k => laws_rInts.l0 k a a (pre.length : Int)) true := by
  intro suf
  induction suf with
  | nil =>
    intro pre e
    have h := len_end e
    refine ev_succ ?_
    simp only [laws_rInts.l0.eq_2]
    exact ev_neg (by omega) (ev_now rfl)
  | cons c suf ih =>
    intro pre e
    have h := len_mid e
    refine ev_succ ?_
    simp only [laws_rInts.l0.eq_2]
    rw [wrap_snoc (pre := pre) (c := c) (by omega)]
    exact ev_pos (by omega) (ev_pos (by omega) (ev_pos (by omega) (ev_pos trivial (ih _ (snoc_mid e)))))
theorem rInts_ev (a : List Int) (ha : a.length ≤ 1048576) : Ev (fun k => laws_rInts.f k a a) true := by
  unfold laws_rInts.f
  exact ev_pos rfl (rInts_l a ha a [] rfl)

/-! ### FnSweeps: the loops of the law -/
theorem rSorted_l (l : List Int) (hl : l.length ≤ 1000) : ∀ (suf pre : List Int), l = pre ++ suf → Ev (fun k => laws_rSorted.l0 k l (pre.length : Int)) (decide (suf = iota ((pre.length : Int) + 1) suf.length)) := by
  intro suf
  induction suf with
  | nil =>
    intro pre e
    have h := len_end e
    refine ev_succ ?_
    simp only [laws_rSorted.l0.eq_2]
    exact ev_neg (by omega) (ev_now (by simp [iota]))
  | cons c suf ih =>
    intro pre e
    have h := len_mid e
    refine ev_succ ?_
    simp only [laws_rSorted.l0.eq_2, rd_mid' e]
    rw [wrap_of (x := (pre.length : Int) + 1) (by omega) (by omega)]
    refine ev_pos (by omega) (ev_pos (by omega) ?_)
    by_cases hc : c = (pre.length : Int) + 1
    · have := ih (pre ++ [c]) (snoc_mid e)
      rw [show (((pre ++ [c]).length : Nat) : Int) = (pre.length : Int) + 1 by simp] at this
      refine ev_pos hc (ev_eq this ?_)
      simp [iota, hc]
    · refine ev_neg hc (ev_now ?_)
      simp [iota, hc]
theorem rSorted_ev (l : List Int) (hl : l.length ≤ 1000) : Ev (fun k => laws_rSorted.f k l) (decide (l = iota 1 l.length)) := by
  unfold laws_rSorted.f
  have := rSorted_l l hl l [] rfl
  simpa using this

def okO (l : List Int) : Bool := isOrd (inv l) && inv (inv l) == l && comp l (inv l) == iota 1 l.length && isOrd l.reverse && isOrd (l.map (other l.length)) && (l.map (other l.length)).map (other l.length) == l && (invC l + invC l.reverse == l.length * (l.length - 1) / 2)
theorem ok1 : (ordsN 1).all okO = true := by decide +kernel
theorem ok2 : (ordsN 2).all okO = true := by decide +kernel
theorem ok3 : (ordsN 3).all okO = true := by decide +kernel
theorem ok4 : (ordsN 4).all okO = true := by decide +kernel
theorem ok5 : (ordsN 5).all okO = true := by decide +kernel
theorem ok6 : (ordsN 6).all okO = true := by decide +kernel
theorem ok7_1 : ((permsN 6 [2, 3, 4, 5, 6, 7]).map (fun s => (1 : Int) :: s)).all okO = true := by decide +kernel
theorem ok7_2 : ((permsN 6 [1, 3, 4, 5, 6, 7]).map (fun s => (2 : Int) :: s)).all okO = true := by decide +kernel
theorem ok7_3 : ((permsN 6 [1, 2, 4, 5, 6, 7]).map (fun s => (3 : Int) :: s)).all okO = true := by decide +kernel
theorem ok7_4 : ((permsN 6 [1, 2, 3, 5, 6, 7]).map (fun s => (4 : Int) :: s)).all okO = true := by decide +kernel
theorem ok7_5 : ((permsN 6 [1, 2, 3, 4, 6, 7]).map (fun s => (5 : Int) :: s)).all okO = true := by decide +kernel
theorem ok7_6 : ((permsN 6 [1, 2, 3, 4, 5, 7]).map (fun s => (6 : Int) :: s)).all okO = true := by decide +kernel
theorem ok7_7 : ((permsN 6 [1, 2, 3, 4, 5, 6]).map (fun s => (7 : Int) :: s)).all okO = true := by decide +kernel
theorem ok7 : (ordsN 7).all okO = true := ord7_all okO ok7_1 ok7_2 ok7_3 ok7_4 ok7_5 ok7_6 ok7_7
theorem okO_of {l : List Int} (h : isOrd l = true) : isOrd (inv l) = true ∧ inv (inv l) = l ∧ comp l (inv l) = iota 1 l.length ∧ isOrd l.reverse = true ∧ isOrd (l.map (other l.length)) = true ∧ (l.map (other l.length)).map (other l.length) = l ∧ invC l + invC l.reverse = l.length * (l.length - 1) / 2 := by
  have := ord_all okO ok1 ok2 ok3 ok4 ok5 ok6 ok7 h
  unfold okO at this
  simp only [Bool.and_eq_true, beq_iff_eq] at this
  obtain ⟨⟨⟨⟨⟨⟨h1, h2⟩, h3⟩, h4⟩, h5⟩, h6⟩, h7⟩ := this
  exact ⟨h1, h2, h3, h4, h5, h6, h7⟩
theorem io_ev (l : List Int) (h : l.length ≤ 140737488351232) : Ev (fun k => impl_IsOrder.f k l) (isOrd l) := by
  unfold impl_IsOrder.f
  exact ev_bind (impl_order_ev l h) (ev_now rfl)
theorem drawIO_ok {l : List Int} (hl : byteL l) : ∃ v, Ev (fun k => spec_DrawInverseOrder.f k l) v ∧ v.length ≤ 8 := by
  obtain ⟨v, hv, hv8, _⟩ := order_ok hl 0 0 (by omega) (by omega)
  refine ⟨v.1, ?_, hv8⟩
  unfold spec_DrawInverseOrder.f spec_DrawIsOrder.f
  exact ev_bind (ev_bind hv (ev_now rfl)) (ev_now rfl)
theorem at_ev (n k : Nat) (hn : n ≤ 7) (hk : k < fac n) : Ev (fun i => spec_l2At.f i (n : Int) (k : Int)) (orderAtL n k) := by
  unfold spec_l2At.f
  exact ev_bind (spec_sorted_ev n hn) (spec_at_l n (iota 1 n) [] k (iota_length _ _) hn (by simp; omega) hk)
theorem drawCO_ok {l : List Int} (hl : byteL l) : ∃ a b, Ev (fun k => spec_DrawComposeOrders.f k l) (a, b) ∧ a.length ≤ 8 ∧ b.length ≤ 8 := by
  obtain ⟨v, hv, hv8, hv0, hv1⟩ := order_ok hl 0 0 (by omega) (by omega)
  have J0 : ∀ s1 s2, 0 ≤ s1 → s1 ≤ 100 → ∃ b, Ev (fun k => spec_DrawComposeOrders.j0 k v.1 false l s1 s2) (v.1, b) ∧ b.length ≤ 8 := by
    intro s1 s2 h0 h1
    obtain ⟨u, hu, hu8, _⟩ := order_ok hl s1 s2 h0 (by omega)
    refine ⟨u.1, ev_succ ?_, hu8⟩
    simp only [spec_DrawComposeOrders.j0.eq_2]
    exact ev_neg (by simp) (ev_bind hu (ev_now rfl))
  by_cases h : isOrd v.1 = true
  · obtain ⟨b, s3, s4, hb, hs, hs'⟩ := one_any hl v.2.1 v.2.2 6 hv0 (by omega) (by omega) (by omega)
    cases b with
    | true =>
      obtain ⟨c, hc, hc8⟩ := J0 s3 s4 (by omega) (by omega)
      refine ⟨v.1, c, ?_, hv8, hc8⟩
      unfold spec_DrawComposeOrders.f
      refine ev_bind hv (ev_bind (spec_order_ev v.1 (by omega)) (ev_pos h ?_))
      rw [hb]
      exact ev_let hc
    | false =>
      have h7 := ord_len h
      have hf := fac_le h7.2
      have hf0 := fac_pos v.1.length
      obtain ⟨p, s5, s6, hp, hp0, hp1, _⟩ := pick_all hl s3 s4 ((fac v.1.length : Nat) : Int) (by omega) (by omega) (by omega) (by omega)
      obtain ⟨p, rfl⟩ : ∃ m : Nat, p = (m : Int) := ⟨p.toNat, by omega⟩
      refine ⟨v.1, orderAtL v.1.length p, ?_, hv8, by simp [orderAtL, atGo_length]; omega⟩
      unfold spec_DrawComposeOrders.f
      refine ev_bind hv (ev_bind (spec_order_ev v.1 (by omega)) (ev_pos h ?_))
      rw [hb]
      refine ev_let (ev_succ ?_)
      simp only [spec_DrawComposeOrders.j0.eq_2]
      refine ev_pos (by trivial) (ev_bind (ways_ev _ h7.2) ?_)
      rw [hp]
      exact ev_let (ev_bind (at_ev v.1.length p h7.2 (by omega)) (ev_now rfl))
  · obtain ⟨c, hc, hc8⟩ := J0 v.2.1 v.2.2 hv0 (by omega)
    refine ⟨v.1, c, ?_, hv8, hc8⟩
    unfold spec_DrawComposeOrders.f
    exact ev_bind hv (ev_bind (spec_order_ev v.1 (by omega)) (ev_neg h hc))
theorem drawOA_ok {l : List Int} (hl : byteL l) : ∃ n k, Ev (fun i => spec_DrawOrderAt.f i l) (n, k) := by
  obtain ⟨y, s3, s4, hy, hm, hs, hs'⟩ := among_ok hl 0 0 [3, 4, 5, 2, 7, 6, 1, 0, 8] (by omega) (by omega) (by decide) (by decide)
  have hr : 0 ≤ y ∧ y ≤ 8 := by
    simp only [List.mem_cons, List.not_mem_nil, or_false] at hm
    omega
  obtain ⟨m, hm1, hm2, hm7⟩ : ∃ m : Nat, ((spec_l1Least.f y 7).bind fun t => spec_l1Most.f 1 t) = some (m : Int) ∧ 1 ≤ m ∧ m ≤ 7 := by
    have : y = 0 ∨ y = 1 ∨ y = 2 ∨ y = 3 ∨ y = 4 ∨ y = 5 ∨ y = 6 ∨ y = 7 ∨ y = 8 := by omega
    rcases this with rfl | rfl | rfl | rfl | rfl | rfl | rfl | rfl | rfl
    · exact ⟨1, rfl, by omega, by omega⟩
    · exact ⟨1, rfl, by omega, by omega⟩
    · exact ⟨2, rfl, by omega, by omega⟩
    · exact ⟨3, rfl, by omega, by omega⟩
    · exact ⟨4, rfl, by omega, by omega⟩
    · exact ⟨5, rfl, by omega, by omega⟩
    · exact ⟨6, rfl, by omega, by omega⟩
    · exact ⟨7, rfl, by omega, by omega⟩
    · exact ⟨7, rfl, by omega, by omega⟩
  obtain ⟨t, ht1, ht2⟩ := Option.bind_eq_some_iff.1 hm1
  have hf := fac_le hm7
  have hf0 := fac_pos m
  obtain ⟨p, p1, p2, hp, _, _, hp2, hp3⟩ := pick_all hl s3 s4 ((fac m : Nat) : Int) (by omega) (by omega) (by omega) (by omega)
  obtain ⟨q, q1, q2, hq, _, _, hq2, hq3⟩ := pick_all hl p1 p2 24 (by omega) (by omega) (by omega) (by omega)
  obtain ⟨r, r1, r2, hr, _, _, hr2, hr3⟩ := pick_all hl q1 q2 24 (by omega) (by omega) (by omega) (by omega)
  refine ⟨y, wrap64 ((wrap64 (p - (wrap64 (Int.tdiv q 23)))) + (wrap64 (Int.tdiv r 23))), ?_⟩
  unfold spec_DrawOrderAt.f
  rw [hy]
  refine ev_let ?_
  rw [ht1]
  refine ev_let ?_
  rw [ht2]
  refine ev_let (ev_bind (ways_ev m hm7) ?_)
  rw [hp]
  refine ev_let ?_
  rw [hq]
  refine ev_let ?_
  rw [hr]
  exact ev_let (ev_now rfl)
theorem text_ev {l : List Int} (h : isOrd l = true) : Ev (fun k => spec_l2Text.f k l) (⟨(l.map digB).toArray⟩ : ByteArray) := by
  have hd := ord_digs h
  unfold spec_l2Text.f
  exact text_l l (by omega) hd.2 l [] rfl
theorem drawPO_ok {l : List Int} (hl : byteL l) : ∃ s, Ev (fun k => spec_DrawParseOrder.f k l) s ∧ s.size ≤ 100 := by
  obtain ⟨v, hv, hv8, hv0, hv1⟩ := order_ok hl 0 0 (by omega) (by omega)
  have J0 : ∀ a : ByteArray, a.size ≤ 20 → ∃ b, Ev (fun k => spec_DrawParseOrder.j0 k a l v.2.1 v.2.2) b ∧ b.size ≤ 100 := by
    intro a ha
    obtain ⟨b, s3, s4, hb, hs, hs'⟩ := one_any hl v.2.1 v.2.2 3 hv0 (by omega) (by omega) (by omega)
    cases b with
    | true =>
      obtain ⟨t, s5, s6, ht, hts⟩ := spoilt_ok hl s3 s4 a (⟨#[49, 50, 51, 52, 53, 32, 120]⟩ : ByteArray) (by omega) (by omega) (by omega) (by decide) (by decide)
      refine ⟨t, ev_succ ?_, by omega⟩
      simp only [spec_DrawParseOrder.j0.eq_2, hb]
      refine ev_let (ev_pos rfl ?_)
      simp only [ht]
      exact ev_let (ev_now rfl)
    | false =>
      refine ⟨a, ev_succ ?_, by omega⟩
      simp only [spec_DrawParseOrder.j0.eq_2, hb]
      exact ev_let (ev_neg (by simp) (ev_now rfl))
  by_cases h : isOrd v.1 = true
  · obtain ⟨b, hb, hb2⟩ := J0 (⟨(v.1.map digB).toArray⟩ : ByteArray) (by simp [ByteArray.size]; omega)
    refine ⟨b, ?_, hb2⟩
    unfold spec_DrawParseOrder.f
    exact ev_bind hv (ev_bind (spec_order_ev v.1 (by omega)) (ev_pos h (ev_bind (text_ev h) hb)))
  · obtain ⟨b, hb, hb2⟩ := J0 (⟨#[51, 49, 50]⟩ : ByteArray) (by decide)
    refine ⟨b, ?_, hb2⟩
    unfold spec_DrawParseOrder.f
    exact ev_bind hv (ev_bind (spec_order_ev v.1 (by omega)) (ev_neg h hb))
theorem rank_at {n k : Nat} (h1 : 1 ≤ n) (h7 : n ≤ 7) (hk : k < fac n) : rankL (orderAtL n k) = k := by
  have hp := orderAt_perm hk
  have hlen : (orderAtL n k).length = n := by simp [orderAtL, atGo_length]
  have hr := at_rank (orderAtL n k) (iota 1 n) hp (iota_sorted _ _)
  rw [iota_length] at hr
  have hrl := rankL_lt (orderAtL n k)
  rw [hlen] at hrl
  rcases Nat.lt_trichotomy (rankL (orderAtL n k)) k with h | h | h
  · have := atGo_bef n (iota 1 n) _ k (iota_length _ _) (iota_sorted _ _) h hk
    rw [hr] at this
    unfold orderAtL at this
    rw [befB_irrefl] at this; cases this
  · exact h
  · have := atGo_bef n (iota 1 n) k _ (iota_length _ _) (iota_sorted _ _) h hrl
    rw [hr] at this
    unfold orderAtL at this
    rw [befB_irrefl] at this; cases this
theorem text_parse {s : ByteArray} (h : isOrd (digs s) = true) : (⟨((digs s).map digB).toArray⟩ : ByteArray) = s := by
  have hd := ord_digs h
  apply ByteArray.ext
  apply Array.ext'
  simp only
  unfold digs at hd ⊢
  rw [List.map_map]
  unfold bytesOf at hd ⊢
  rw [List.map_map]
  conv => rhs; rw [← List.map_id s.data.toList]
  refine List.map_congr_left (fun c hc => ?_)
  have hq := hd.2 ((c.toNat : Int) - 48) (by simp only [List.mem_map]; exact ⟨(c.toNat : Int), ⟨c, hc, rfl⟩, rfl⟩)
  simp only [Function.comp, digB, id]
  have h1 : 48 + ((c.toNat : Int) - 48).toNat = c.toNat := by omega
  rw [h1]
  exact UInt8.ofNat_toNat
theorem FnOrders : laws_FnOrders.Pure := by
  intro l hm ha hw
  by_cases hbig : (l.length : Int) > 65536
  · exact .inl (by unfold laws_rBig.f; rw [decide_eq_true hbig])
  refine .inr ⟨by unfold laws_rBig.f; rw [decide_eq_false hbig], ?_⟩
  have hl : byteL l := ⟨by omega, fun x hx => by have := hw x hx; simp [Lit.wf] at this; exact ⟨this.1, this.2⟩⟩
  obtain ⟨o, ho, hol⟩ := drawIO_ok hl
  obtain ⟨a, b, hab, hal, hbl⟩ := drawCO_ok hl
  obtain ⟨n, k, hnk⟩ := drawOA_ok hl
  obtain ⟨s, hs, hsl⟩ := drawPO_ok hl
  have E : ∀ (α : Type) (z r : α), onOrd o z r = ((onOrd o z r).1, isOrd o) := by
    intro α z r
    by_cases h : isOrd o = true
    · rw [onOrd_pos h, h]
    · rw [onOrd_neg h, Bool.eq_false_iff.2 h]
  have q1 : inverseR o = ((inverseR o).1, isOrd o) := E _ _ _
  have q2 : backR o = ((backR o).1, isOrd o) := E _ _ _
  have q3 : otherR o = ((otherR o).1, isOrd o) := E _ _ _
  have q4 : rankR o = ((rankR o).1, isOrd o) := E _ _ _
  have q5 : invcR o = ((invcR o).1, isOrd o) := E _ _ _
  have q6 : otR o = ((otR o).1, isOrd o) := by
    by_cases h : isOrd o = true
    · unfold otR; rw [if_pos h, h]
    · unfold otR; rw [if_neg h, Bool.eq_false_iff.2 h]
  have hi1 := impl_inverse_ev o (by omega)
  have hi2 := spec_inverse_ev o (by omega)
  have hb1 := impl_backorder_ev o (by omega)
  have hb2 := spec_backorder_ev o (by omega)
  have ht1 := impl_other_ev o (by omega)
  have ht2 := spec_other_ev o (by omega)
  have hr1 := impl_rankorder_ev o (by omega)
  have hr2 := spec_rankorder_ev o (by omega)
  have hn1 := impl_invs_ev o (by omega)
  have hn2 := spec_invs_ev o (by omega)
  have hx1 := ot_impl_ev o (by omega)
  have hx2 := ot_spec_ev o (by omega)
  have len1 : (inverseR o).1.length ≤ 8 := by
    by_cases h : isOrd o = true
    · have : inverseR o = (inv o, true) := onOrd_pos h
      rw [this]; simp only [inv_length]; omega
    · have : inverseR o = ([], false) := onOrd_neg h
      rw [this]; simp
  have len2 : (backR o).1.length ≤ 8 := by
    by_cases h : isOrd o = true
    · have : backR o = (o.reverse, true) := onOrd_pos h
      rw [this]; simp only [List.length_reverse]; omega
    · have : backR o = ([], false) := onOrd_neg h
      rw [this]; simp
  have len3 : (otherR o).1.length ≤ 8 := by
    by_cases h : isOrd o = true
    · have : otherR o = (o.map (other o.length), true) := onOrd_pos h
      rw [this]; simp only [List.length_map]; omega
    · have : otherR o = ([], false) := onOrd_neg h
      rw [this]; simp
  have len4 : (composeR a b).1.length ≤ 8 := by
    unfold composeR
    split
    · simp [comp]; omega
    · simp
  have len5 : (parseR s).1.length ≤ 100 := by
    by_cases h : isOrd (digs s) = true
    · have : parseR s = (digs s, true) := onOrd_pos h
      rw [this]; simp only [digs_length]; omega
    · have : parseR s = ([], false) := onOrd_neg h
      rw [this]; simp
  have len6 := orderAtR_length n k
  rw [q1] at hi1 hi2
  rw [q2] at hb1 hb2
  rw [q3] at ht1 ht2
  rw [q4] at hr1 hr2
  rw [q5] at hn1 hn2
  rw [q6] at hx1 hx2
  refine ⟨o, (inverseR o).1, (backR o).1, (otherR o).1, a, b, (composeR a b).1, (orderAtR n k).1, (parseR s).1, iota 1 o.length, (rankR o).1, (invcR o).1, n, k, (invcR o.reverse).1, (otR o).1, s, isOrd o, (composeR a b).2, (orderAtR n k).2, (parseR s).2, ?_⟩
  refine ⟨?e1, ho, hi1, hi2, io_ev o (by omega), rInts_ev _ (by omega), hb1, hb2, rInts_ev _ (by omega), ht1, ht2, rInts_ev _ (by omega), hr1, hr2, hn1, hn2, hx1, hx2, hab, impl_compose_ev a b (by omega) (by omega), spec_compose_ev a b (by omega) (by omega), rInts_ev _ (by omega), hnk, impl_orderat_ev n k, spec_orderat_ev n k, rInts_ev _ (by omega), hs, impl_parseorder_ev s (by omega), spec_parseorder_ev s, rInts_ev _ (by omega), ?hseven, ?height, ?hok⟩
  case e1 => unfold laws_rBig.f; rw [decide_eq_false hbig]
  case hseven =>
    intro h7
    by_cases h : 1 ≤ n ∧ n ≤ 7 ∧ 0 ≤ k ∧ k < (fac n.toNat : Int)
    · have hq : orderAtR n k = (orderAtL n.toNat k.toNat, true) := if_pos h
      rw [hq]
      have hk : k.toNat < fac n.toNat := by omega
      have hord := ord_of_perm (by omega) (by omega) (orderAt_perm hk)
      have h2 := impl_rankorder_ev (orderAtL n.toNat k.toNat) (by simp [orderAtL, atGo_length]; omega)
      have h3 : rankR (orderAtL n.toNat k.toNat) = (((rankL (orderAtL n.toNat k.toNat) : Nat) : Int), true) := onOrd_pos hord
      rw [h3, rank_at (by omega) (by omega) hk, show ((k.toNat : Nat) : Int) = k by omega] at h2
      exact h2
    · have hq : orderAtR n k = ([], false) := if_neg h
      rw [hq] at h7; cases h7
  case height =>
    intro h8
    by_cases h : isOrd (digs s) = true
    · have hq : parseR s = (digs s, true) := onOrd_pos h
      rw [hq]
      have h2 := ot_impl_ev (digs s) (by rw [digs_length]; omega)
      have h3 : otR (digs s) = ((⟨((digs s).map digB).toArray⟩ : ByteArray), true) := if_pos h
      rw [h3, text_parse h] at h2
      exact h2
    · have hq : parseR s = ([], false) := onOrd_neg h
      rw [hq] at h8; cases h8
  case hok =>
    intro h
    obtain ⟨h1, h2, h3, h4, h5, h6, h7⟩ := okO_of h
    have hlen := ord_len h
    have e1 : inverseR o = (inv o, true) := onOrd_pos h
    have e2 : backR o = (o.reverse, true) := onOrd_pos h
    have e3 : otherR o = (o.map (other o.length), true) := onOrd_pos h
    have e4 : rankR o = (((rankL o : Nat) : Int), true) := onOrd_pos h
    have e5 : invcR o = (((invC o : Nat) : Int), true) := onOrd_pos h
    have e6 : invcR o.reverse = (((invC o.reverse : Nat) : Int), true) := onOrd_pos h4
    have l1 := invC_le o
    have l2 := invC_le o.reverse
    rw [List.length_reverse] at l2
    have l3 : o.length * o.length ≤ 7 * 7 := Nat.mul_le_mul hlen.2 hlen.2
    refine ⟨?_, ?_, ?_, ?_, ?_, ?_, rInts_ev _ (by omega), ?_, ?_⟩
    · rw [e1]
      have := impl_inverse_ev (inv o) (by rw [inv_length]; omega)
      rwa [show inverseR (inv o) = (inv (inv o), true) from onOrd_pos h1, h2] at this
    · rw [e1]
      have := impl_compose_ev o (inv o) (by omega) (by rw [inv_length]; omega)
      rwa [show composeR o (inv o) = (comp o (inv o), true) from if_pos ⟨h, h1, (inv_length o).symm⟩, h3] at this
    · rw [e2]
      have := impl_backorder_ev o.reverse (by rw [List.length_reverse]; omega)
      rwa [show backR o.reverse = (o.reverse.reverse, true) from onOrd_pos h4, List.reverse_reverse] at this
    · rw [e3]
      have := impl_other_ev (o.map (other o.length)) (by rw [List.length_map]; omega)
      rw [show otherR (o.map (other o.length)) = ((o.map (other o.length)).map (other (o.map (other o.length)).length), true) from onOrd_pos h5, List.length_map, h6] at this
      exact this
    · rw [e2, e6]
      have := impl_invs_ev o.reverse (by rw [List.length_reverse]; omega)
      rwa [e6] at this
    · rw [e4]
      have := impl_orderat_ev (o.length : Int) ((rankL o : Nat) : Int)
      have hr := rankL_lt o
      rw [show orderAtR (o.length : Int) ((rankL o : Nat) : Int) = (orderAtL o.length (rankL o), true) from by
        unfold orderAtR
        rw [if_pos ⟨by omega, by omega, by omega, by simpa using hr⟩]; simp] at this
      have h8 := at_rank o (iota 1 o.length) (ord_perm h).symm (iota_sorted _ _)
      rw [iota_length] at h8
      rw [show orderAtL o.length (rankL o) = o from h8] at this
      exact this
    · have := rSorted_ev (iota 1 o.length) (by rw [iota_length]; omega)
      rw [iota_length, decide_eq_true rfl] at this
      exact this
    · rw [e5, e6]
      refine ⟨by omega, by omega, by omega, by omega, by omega, ?_⟩
      have : o.length = 1 ∨ o.length = 2 ∨ o.length = 3 ∨ o.length = 4 ∨ o.length = 5 ∨ o.length = 6 ∨ o.length = 7 := by omega
      rcases this with e | e | e | e | e | e | e <;> rw [e] at h7 ⊢ <;> simp at h7 ⊢ <;> omega
end Go.Proofs.Ytlkddcabjcejdaa.Pure
