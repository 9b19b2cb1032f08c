/- The pure statement of FnAvoiding: what its functions answer; orders that avoid patterns are counted by their children, and the first one avoids all. No condition. -/
import Derived.Test.YtlkddcabjcejdaaMFnAvoidingx16
import Derived.Test.YtlkddcabjcejdaaBase
import Derived.Test.YtlkddcabjcejdaaBaseP
import Derived.Test.YtlkddcabjcejdaaBaseN
import Derived.Test.YtlkddcabjcejdaaBaseF
import Derived.Test.YtlkddcabjcejdaaBaseO
import Derived.Test.YtlkddcabjcejdaaBaseI
import Derived.Test.YtlkddcabjcejdaaBaseA
import Derived.Test.YtlkddcabjcejdaaBaseD
import Derived.Test.YtlkddcabjcejdaaBaseV
namespace Go.Proofs.Ytlkddcabjcejdaa.Pure
open Go Go.RowKit Go.Proofs.Ytlkddcabjcejdaa.MFnAvoiding Go.Proofs.YtlkddcabjcejdaaW.PrintWords Go.Proofs.Ytlkddcabjcejdaa.Base
set_option linter.unusedVariables false
set_option linter.unusedSimpArgs false
/-! ### a row of rows -/
theorem rdL_mid {rows pre suf : List (List Int)} {c : List Int} (h : rows = pre ++ c :: suf) : rd_L2 rows (pre.length : Int) = c := by rw [h]; simp [rd_L2]

/-! ### the drawing functions -/
theorem u64_eq (n : Int) : IntKind.u64.wrap n = n % 18446744073709551616 := rfl
theorem and_ok (Y : Int) : 0 ≤ wrap64 (Go.bits .and .u64 (IntKind.u64.wrap Y / 1099511627776) 255) ∧ wrap64 (Go.bits .and .u64 (IntKind.u64.wrap Y / 1099511627776) 255) ≤ 255 := by
 rw [u64_eq]
 obtain ⟨m, hm⟩ : ∃ m : Nat, (Y % 18446744073709551616) / 1099511627776 = (m : Int) := ⟨((Y % 18446744073709551616) / 1099511627776).toNat, by omega⟩
 have hlt : m < 18446744073709551616 := by omega
 rw [hm, show (255 : Int) = ((255 : Nat) : Int) from rfl, Go.bits_and_u64_nat m 255 hlt (by omega)]
 have h2 : m &&& 255 ≤ 255 := Nat.and_le_right
 rw [wrap_of (by omega) (by omega)]
 omega
def byteL (l : List Int) : Prop := l.length ≤ 65536 ∧ ∀ x ∈ l, 0 ≤ x ∧ x ≤ 255
theorem rd_byte {l : List Int} (hl : byteL l) (i : Int) (h0 : 0 ≤ i) (h1 : i < (l.length : Int)) : 0 ≤ rd l i ∧ rd l i ≤ 255 := by
 have hi : i.toNat < l.length := by omega
 have e : rd l i = l[i.toNat] := by simp [rd, List.getD_eq_getElem?_getD, List.getElem?_eq_getElem hi]
 rw [e]
 exact hl.2 _ (List.getElem_mem hi)
theorem next_ok {l : List Int} (hl : byteL l) (s1 s2 : Int) (h0 : 0 ≤ s1) (h1 : s1 ≤ 1000000) : ∃ b s2', spec_l1Cur_next.f l s1 s2 = some (b, s1 + 1, s2') ∧ 0 ≤ b ∧ b ≤ 255 := by
 unfold spec_l1Cur_next.f
 rw [wrap_of (x := s1 + 1) (by omega) (by omega)]
 by_cases h : s1 < (l.length : Int)
 · have hr := rd_byte hl s1 h0 h
   rw [if_pos h, if_pos h0]
   by_cases h2 : s1 + 1 ≤ (l.length : Int)
   · rw [if_pos h2]
     exact ⟨_, _, rfl, by rw [wrap_of (by omega) (by omega)]; exact hr.1, by rw [wrap_of (by omega) (by omega)]; exact hr.2⟩
   · rw [if_neg h2]
     exact ⟨_, _, rfl, (and_ok _).1, (and_ok _).2⟩
 · rw [if_neg h]
   by_cases h2 : s1 + 1 ≤ (l.length : Int)
   · rw [if_pos h2]
     exact ⟨_, _, rfl, by omega, by omega⟩
   · rw [if_neg h2]
     exact ⟨_, _, rfl, (and_ok _).1, (and_ok _).2⟩
theorem pick_ok {l : List Int} (hl : byteL l) (s1 s2 n : Int) (h0 : 0 ≤ s1) (h1 : s1 ≤ 1000000) (hn : 2 ≤ n) (hn2 : n ≤ 200) : ∃ b s2', spec_l1Cur_pick.f l s1 s2 n = some (b, s1 + 1, s2') ∧ 0 ≤ b ∧ b < n := by
 obtain ⟨b, s2', hb, hb0, hb1⟩ := next_ok hl s1 s2 h0 h1
 unfold spec_l1Cur_pick.f
 rw [if_neg (by omega), hb]
 simp only [Option.bind_some]
 rw [if_neg (by omega), if_neg (by omega)]
 refine ⟨_, _, rfl, ?_, ?_⟩
 · rw [Int.tmod_eq_emod_of_nonneg hb0]; exact Int.emod_nonneg _ (by omega)
 · rw [Int.tmod_eq_emod_of_nonneg hb0]; exact Int.emod_lt_of_pos _ (by omega)

/-! ### the drawing functions that draw orders -/
theorem pick_any {l : List Int} (hl : byteL l) (s1 s2 n : Int) (h0 : 0 ≤ s1) (h1 : s1 ≤ 1000000) (hn : 1 ≤ n) (hn2 : n ≤ 200) : ∃ b s1' s2', spec_l1Cur_pick.f l s1 s2 n = some (b, s1', s2') ∧ 0 ≤ b ∧ b < n ∧ s1 ≤ s1' ∧ s1' ≤ s1 + 1 := by
 by_cases h : n = 1
 · subst h
   exact ⟨0, s1, s2, by unfold spec_l1Cur_pick.f; rw [if_pos (by omega)], by omega, by omega, by omega, by omega⟩
 · obtain ⟨b, s2', hb, hb0, hb1⟩ := pick_ok hl s1 s2 n h0 h1 (by omega) hn2
   exact ⟨b, s1 + 1, s2', hb, hb0, hb1, by omega, by omega⟩
theorem among_ok {l : List Int} (hl : byteL l) (s1 s2 : Int) (xs : List Int) (h0 : 0 ≤ s1) (h1 : s1 ≤ 1000000) (hn : 1 ≤ xs.length) (hn2 : xs.length ≤ 200) : ∃ x s1' s2', spec_l1Cur_among.f l s1 s2 xs = some (x, s1', s2') ∧ x ∈ xs ∧ s1 ≤ s1' ∧ s1' ≤ s1 + 1 := by
 obtain ⟨b, s1', s2', hb, hb0, hb1, hs, hs'⟩ := pick_any hl s1 s2 (xs.length : Int) h0 h1 (by omega) (by omega)
 unfold spec_l1Cur_among.f
 rw [hb]
 simp only [Option.bind_some]
 rw [if_pos hb0, if_pos hb1]
 refine ⟨_, _, _, rfl, ?_, hs, hs'⟩
 have hi : b.toNat < xs.length := by omega
 have e : rd xs b = xs[b.toNat] := by simp [rd, List.getD_eq_getElem?_getD, List.getElem?_eq_getElem hi]
 rw [e]
 exact List.getElem_mem hi
theorem own_ok (x : List Int) (h : x.length ≤ 1000) : spec_l1Own.f x = some x := by
 unfold spec_l1Own.f
 simp only [Option.bind_some, List.length_nil, Nat.zero_add, List.nil_append]
 rw [if_pos (by omega)]
theorem order_l {l : List Int} (hl : byteL l) : ∀ (d : Nat) (x : List Int) (s1 s2 : Int), x.length + d ≤ 7 → 1 ≤ x.length + d → 0 ≤ s1 → s1 + d ≤ 900000 →
 ∃ v, Ev (fun k => spec_l1Cur_order.l0 k x (d : Int) l s1 s2) v ∧ v.1.length ≤ 8 ∧ 0 ≤ v.2.1 ∧ v.2.1 ≤ s1 + d + 3 := by
 intro d
 induction d with
 | zero =>
  intro x s1 s2 hx hx1 h0 h1
  obtain ⟨p, s3, s4, hp, hp0, hp1, hs, hs'⟩ := pick_any hl s1 s2 40 h0 (by omega) (by omega) (by omega)
  by_cases hz : p = 0
  · refine ⟨([], s3, s4), ev_succ ?_, by simp, by simp only; omega, by simp only; omega⟩
    simp only [spec_l1Cur_order.l0.eq_2, hp]
    exact ev_neg (by omega) (ev_let (ev_pos hz (ev_now rfl)))
  · by_cases hz1 : p = 1
    · obtain ⟨q, s5, s6, hq, hq0, hq1, ht, ht'⟩ := pick_any hl s3 s4 (x.length : Int) (by omega) (by omega) (by omega) (by omega)
      obtain ⟨y, s7, s8, hy, _, hu, hu'⟩ := among_ok hl s5 s6 [0, 1, 8, (-1)] (by omega) (by omega) (by decide) (by decide)
      refine ⟨(x.set q.toNat y, s7, s8), ev_succ ?_, by simp; omega, by simp only; omega, by simp only; omega⟩
      simp only [spec_l1Cur_order.l0.eq_2, hp]
      refine ev_neg (by omega) (ev_let (ev_neg hz (ev_pos hz1 ?_)))
      simp only [hq]
      refine ev_let ?_
      simp only [hy]
      exact ev_let (ev_pos hq0 (ev_pos hq1 (ev_now rfl)))
    · by_cases hz2 : p = 2
      · refine ⟨([1, 2, 3, 4, 5, 6, 7, 8], s3, s4), ev_succ ?_, by simp, by simp only; omega, by simp only; omega⟩
        simp only [spec_l1Cur_order.l0.eq_2, hp]
        exact ev_neg (by omega) (ev_let (ev_neg hz (ev_neg hz1 (ev_pos hz2 (ev_now rfl)))))
      · refine ⟨(x, s3, s4), ev_succ ?_, by simp only; omega, by simp only; omega, by simp only; omega⟩
        simp only [spec_l1Cur_order.l0.eq_2, hp]
        exact ev_neg (by omega) (ev_let (ev_neg hz (ev_neg hz1 (ev_neg hz2 (ev_now rfl)))))
 | succ d ih =>
  intro x s1 s2 hx hx1 h0 h1
  obtain ⟨p, s3, s4, hp, hp0, hp1, hs, hs'⟩ := pick_any hl s1 s2 ((x.length : Int) + 1) h0 (by omega) (by omega) (by omega)
  have hw : wrap64 ((x.length : Int) + 1) = (x.length : Int) + 1 := wrap_of (by omega) (by omega)
  have hlen : ((x.take p.toNat ++ [(x.length : Int) + 1]) ++ x.drop p.toNat).length = x.length + 1 := by simp; omega
  obtain ⟨v, hv, hv1, hv2, hv3⟩ := ih ((x.take p.toNat ++ [(x.length : Int) + 1]) ++ x.drop p.toNat) s3 s4 (by rw [hlen]; omega) (by omega) (by omega) (by omega)
  refine ⟨v, ev_succ ?_, hv1, hv2, by omega⟩
  have how := own_ok (x.take p.toNat) (by simp; omega)
  simp only [spec_l1Cur_order.l0.eq_2, hw, hp]
  rw [wrap_of (x := ((d + 1 : Nat) : Int) - 1) (by omega) (by omega), show ((d + 1 : Nat) : Int) - 1 = (d : Int) by omega]
  refine ev_pos (by omega) (ev_let (ev_pos hp0 (ev_pos (by simp only; omega) ?_)))
  simp only [how]
  exact ev_let (ev_let (ev_pos (by simp; omega) (ev_let (ev_let (ev_pos (by simp; omega) hv)))))
theorem order_ok {l : List Int} (hl : byteL l) (s1 s2 : Int) (h0 : 0 ≤ s1) (h1 : s1 ≤ 800000) : ∃ v, Ev (fun k => spec_l1Cur_order.f k l s1 s2) v ∧ v.1.length ≤ 8 ∧ 0 ≤ v.2.1 ∧ v.2.1 ≤ s1 + 20 := by
 obtain ⟨y, s3, s4, hy, hm, hs, hs'⟩ := among_ok hl s1 s2 [4, 5, 3, 6, 2, 7, 1, 4] h0 (by omega) (by decide) (by decide)
 have hr : 1 ≤ y ∧ y ≤ 7 := by
  simp only [List.mem_cons, List.not_mem_nil, or_false] at hm
  omega
 obtain ⟨v, hv, hv1, hv2, hv3⟩ := order_l hl y.toNat [] s3 s4 (by simp; omega) (by simp; omega) (by omega) (by omega)
 refine ⟨v, ?_, hv1, hv2, by omega⟩
 unfold spec_l1Cur_order.f
 rw [hy]
 refine ev_let ?_
 rw [show ((y.toNat : Nat) : Int) = y by omega] at hv
 exact hv

/-! ### further drawing functions -/
theorem pick_all {l : List Int} (hl : byteL l) (s1 s2 n : Int) (h0 : 0 ≤ s1) (h1 : s1 ≤ 900000) (hn : 1 ≤ n) (hn2 : n ≤ 1000000) : ∃ b s1' s2', spec_l1Cur_pick.f l s1 s2 n = some (b, s1', s2') ∧ 0 ≤ b ∧ b < n ∧ s1 ≤ s1' ∧ s1' ≤ s1 + 2 := by
 by_cases h : n ≤ 200
 · obtain ⟨b, s1', s2', hb, h2, h3, h4, h5⟩ := pick_any hl s1 s2 n h0 (by omega) hn h
   exact ⟨b, s1', s2', hb, h2, h3, h4, by omega⟩
 · obtain ⟨b, s2', hb, hb0, hb1⟩ := next_ok hl s1 s2 h0 (by omega)
   obtain ⟨c, s3', hc, hc0, hc1⟩ := next_ok hl (s1 + 1) s2' (by omega) (by omega)
   unfold spec_l1Cur_pick.f
   rw [if_neg (by omega), hb]
   simp only [Option.bind_some]
   rw [if_pos (by omega), hc]
   simp only [Option.bind_some]
   rw [if_neg (by omega), wrap_of (x := b * 256) (by omega) (by omega), wrap_of (by omega) (by omega)]
   refine ⟨_, _, _, rfl, ?_, ?_, by omega, by omega⟩
   · rw [Int.tmod_eq_emod_of_nonneg (by omega)]; exact Int.emod_nonneg _ (by omega)
   · rw [Int.tmod_eq_emod_of_nonneg (by omega)]; exact Int.emod_lt_of_pos _ (by omega)
theorem one_any {l : List Int} (hl : byteL l) (s1 s2 n : Int) (h0 : 0 ≤ s1) (h1 : s1 ≤ 900000) (hn : 1 ≤ n) (hn2 : n ≤ 200) : ∃ b s1' s2', spec_l1Cur_one.f l s1 s2 n = some (b, s1', s2') ∧ s1 ≤ s1' ∧ s1' ≤ s1 + 1 := by
 obtain ⟨b, s3, s4, hb, _, _, hs, hs'⟩ := pick_any hl s1 s2 n h0 (by omega) hn hn2
 exact ⟨b == 0, s3, s4, by unfold spec_l1Cur_one.f; rw [hb]; rfl, hs, hs'⟩

theorem same_l (a b : List Int) (hl : a.length * 8 ≤ 140737488351232) : ∀ (s t pre q : List Int), a = pre ++ s → b = q ++ t → pre.length = q.length → s.length = t.length → Ev (fun k => spec_l1Same.l0 k a b (pre.length : Int)) (decide (s = t)) := by
 intro s
 induction s with
 | nil =>
  intro t pre q e e' h1 h2
  have h := len_end e
  obtain rfl : t = [] := by cases t with
   | nil => rfl
   | cons _ _ => simp at h2
  refine ev_succ ?_
  simp only [spec_l1Same.l0.eq_2]
  refine ev_neg (by omega) ?_
  exact ev_now (by simp)
 | cons c s ih =>
  intro t pre q e e' h1 h2
  cases t with
  | nil => simp at h2
  | cons d t =>
  have h := len_mid e
  have h' := len_mid e'
  refine ev_succ ?_
  have r1 := rd_mid' e
  have r2 := rd_mid' e'
  rw [← h1] at r2
  simp only [spec_l1Same.l0.eq_2, r1, r2]
  refine ev_pos (by omega) (ev_pos (by omega) (ev_pos (by omega) ?_))
  by_cases hc : c = d
  · refine ev_pos hc ?_
    rw [wrap_snoc (pre := pre) (c := c) (by omega)]
    refine ev_eq (ih t (pre ++ [c]) (q ++ [d]) (snoc_mid e) (snoc_mid e') (by simp [h1]) (by simpa using h2)) ?_
    simp [hc]
  · refine ev_neg hc (ev_now ?_)
    simp [hc]
theorem same_ev (a b : List Int) (hl : a.length * 8 ≤ 140737488351232) : Ev (fun k => spec_l1Same.f k a b) (decide (a = b)) := by
 unfold spec_l1Same.f
 by_cases h : a.length = b.length
 · refine ev_pos (by omega) ?_
   exact same_l a b hl a b [] [] rfl rfl rfl h
 · refine ev_neg (by omega) (ev_now ?_)
   symm
   exact decide_eq_false (fun e => h (by rw [e]))

/-! ### Is it an order? -/
theorem in_ev (a b c : Int) : Ev (fun _ => spec_l1In.f a b c) (decide (b ≤ a) && decide (a ≤ c)) := by
 unfold spec_l1In.f
 by_cases h : a ≥ b
 · refine ev_pos h (ev_now ?_)
   have : decide (b ≤ a) = true := decide_eq_true h
   rw [this]; rfl
 · refine ev_neg h (ev_now ?_)
   have : decide (b ≤ a) = false := decide_eq_false (by omega)
   rw [this]; rfl

theorem has_l (l : List Int) (x : Int) (hl : l.length ≤ 140737488351232) : ∀ (suf pre : List Int), l = pre ++ suf → Ev (fun k => spec_l1Has.l0 k l x (pre.length : Int)) (decide (x ∈ suf)) := by
 intro suf
 induction suf with
 | nil =>
  intro pre e
  have h := len_end e
  refine ev_succ ?_
  simp only [spec_l1Has.l0.eq_2]
  refine ev_neg (by omega) ?_
  exact ev_now (by simp)
 | cons c suf ih =>
  intro pre e
  have h := len_mid e
  refine ev_succ ?_
  simp only [spec_l1Has.l0.eq_2, rd_mid' e]
  refine ev_pos (by omega) (ev_pos (by omega) ?_)
  by_cases hc : c = x
  · exact ev_pos hc (ev_now (by simp [hc]))
  · refine ev_neg hc ?_
    rw [wrap_snoc (pre := pre) (c := c) (by omega)]
    refine ev_eq (ih _ (snoc_mid e)) ?_
    have : x ≠ c := fun h => hc h.symm
    simp [this]
theorem has_ev (l : List Int) (x : Int) (hl : l.length ≤ 140737488351232) : Ev (fun k => spec_l1Has.f k l x) (decide (x ∈ l)) := by
 unfold spec_l1Has.f
 exact has_l l x hl l [] rfl
theorem idx_l (l : List Int) (x : Int) (hl : l.length ≤ 140737488351232) : ∀ (suf pre : List Int), l = pre ++ suf → Ev (fun k => slices_Index_int_int.l0 k l x (l.length : Int) (pre.length : Int)) (if x ∈ suf then ((pre.length + suf.idxOf x : Nat) : Int) else -1) := by
 intro suf
 induction suf with
 | nil =>
  intro pre e
  have h := len_end e
  refine ev_succ ?_
  simp only [slices_Index_int_int.l0.eq_2]
  refine ev_neg (by omega) ?_
  exact ev_now (by simp)
 | cons c suf ih =>
  intro pre e
  have h := len_mid e
  refine ev_succ ?_
  simp only [slices_Index_int_int.l0.eq_2, rd_mid' e]
  refine ev_pos (by omega) (ev_pos (by omega) (ev_pos (by omega) ?_))
  by_cases hc : x = c
  · exact ev_pos hc (ev_now (by simp [hc]))
  · refine ev_neg hc ?_
    rw [wrap_snoc (pre := pre) (c := c) (by omega)]
    refine ev_eq (ih _ (snoc_mid e)) ?_
    have hc' : ¬ c = x := fun h => hc h.symm
    have hb : (c == x) = false := by simpa using hc'
    simp only [List.mem_cons, hc, false_or, List.idxOf_cons, hb, cond_false]
    by_cases hm : x ∈ suf
    · rw [if_pos hm, if_pos hm]; simp; omega
    · rw [if_neg hm, if_neg hm]
theorem idx_ev (l : List Int) (x : Int) (hl : l.length ≤ 140737488351232) : Ev (fun k => slices_Index_int_int.f k l x) (if x ∈ l then ((l.idxOf x : Nat) : Int) else -1) := by
 unfold slices_Index_int_int.f
 simpa using idx_l l x hl l [] rfl
theorem contains_ev (l : List Int) (x : Int) (hl : l.length ≤ 140737488351232) : Ev (fun k => slices_Contains_int_int.f k l x) (decide (x ∈ l)) := by
 unfold slices_Contains_int_int.f
 refine ev_bind (idx_ev l x hl) (ev_now ?_)
 by_cases h : x ∈ l
 · simp [h]
 · simp [h]


theorem spec_order_l (l : List Int) (hl : l.length ≤ 140737488351232) : ∀ (suf pre : List Int), l = pre ++ suf → Ev (fun k => spec_l2Order.l0 k l (pre.length : Int)) (ordGo (l.length : Int) pre suf) := by
 intro suf
 induction suf with
 | nil =>
  intro pre e
  have h := len_end e
  refine ev_succ ?_
  simp only [spec_l2Order.l0.eq_2]
  refine ev_neg (by omega) ?_
  exact ev_now rfl
 | cons c suf ih =>
  intro pre e
  have h := len_mid e
  refine ev_succ ?_
  simp only [spec_l2Order.l0.eq_2, rd_mid' e, take_mid e]
  refine ev_pos (by omega) (ev_pos (by omega) (ev_bind (in_ev _ _ _) ?_))
  by_cases hr : 1 ≤ c ∧ c ≤ (l.length : Int)
  · refine ev_pos (by simp [hr.1, hr.2]) (ev_pos (by omega) (ev_bind (has_ev pre c (by omega)) ?_))
    by_cases hc : c ∈ pre
    · exact ev_pos (by simp [hc]) (ev_now (by simp [ordGo, hc]))
    · refine ev_neg (by simp [hc]) ?_
      rw [wrap_snoc (pre := pre) (c := c) (by omega)]
      refine ev_eq (ih _ (snoc_mid e)) ?_
      simp [ordGo, hr.1, hr.2, hc]
  · refine ev_neg (by simp; omega) (ev_now ?_)
    simp only [ordGo]
    rw [if_neg (fun h => hr ⟨h.1, h.2.1⟩)]
theorem spec_order_ev (l : List Int) (hl : l.length ≤ 140737488351232) : Ev (fun k => spec_l2Order.f k l) (isOrd l) := by
 unfold spec_l2Order.f
 refine ev_bind (in_ev _ _ _) ?_
 unfold isOrd
 by_cases h : 1 ≤ l.length ∧ l.length ≤ 7
 · refine ev_pos (by simp; omega) ?_
   rw [if_pos h]
   exact spec_order_l l hl l [] rfl
 · refine ev_neg (by simp; omega) (ev_now ?_)
   rw [if_neg h]
theorem impl_order_l (l : List Int) (hl : l.length ≤ 140737488351232) : ∀ (suf pre : List Int), l = pre ++ suf → Ev (fun k => impl_isOrder.l0 k l l (l.length : Int) (pre.length : Int)) (ordGo (l.length : Int) pre suf) := by
 intro suf
 induction suf with
 | nil =>
  intro pre e
  have h := len_end e
  refine ev_succ ?_
  simp only [impl_isOrder.l0.eq_2]
  refine ev_neg (by omega) ?_
  exact ev_now rfl
 | cons c suf ih =>
  intro pre e
  have h := len_mid e
  refine ev_succ ?_
  simp only [impl_isOrder.l0.eq_2, rd_mid' e, take_mid e]
  refine ev_pos (by omega) (ev_pos (by omega) (ev_pos (by omega) ?_))
  by_cases h1 : c < 1
  · exact ev_pos h1 (ev_now (by simp only [ordGo]; rw [if_neg (fun h => by omega)]))
  refine ev_neg h1 ?_
  by_cases h2 : c > (l.length : Int)
  · exact ev_pos h2 (ev_now (by simp only [ordGo]; rw [if_neg (fun h => by omega)]))
  refine ev_neg h2 (ev_pos (by omega) (ev_bind (contains_ev pre c (by omega)) ?_))
  by_cases hc : c ∈ pre
  · exact ev_pos (by simp [hc]) (ev_now (by simp [ordGo, hc]))
  · refine ev_neg (by simp [hc]) ?_
    rw [wrap_snoc (pre := pre) (c := c) (by omega)]
    refine ev_eq (ih _ (snoc_mid e)) ?_
    simp only [ordGo]
    rw [if_pos ⟨by omega, by omega, hc⟩]
theorem impl_order_ev (l : List Int) (hl : l.length ≤ 140737488351232) : Ev (fun k => impl_isOrder.f k l) (isOrd l) := by
 have key : ∀ b : Bool, Ev (fun k => impl_isOrder.j0 k l b) (if b = true then false else ordGo (l.length : Int) [] l) := by
  intro b
  refine ev_succ ?_
  simp only [impl_isOrder.j0.eq_2]
  cases b with
  | true => exact ev_pos rfl (ev_now rfl)
  | false => exact ev_neg (by simp) (impl_order_l l hl l [] rfl)
 unfold impl_isOrder.f isOrd
 by_cases h1 : (l.length : Int) < 1
 · refine ev_pos h1 (ev_eq (key true) ?_)
   rw [if_pos rfl, if_neg (fun h => by omega)]
 · refine ev_neg h1 (ev_eq (key _) ?_)
   by_cases h2 : (l.length : Int) > 7
   · rw [if_neg (c := 1 ≤ l.length ∧ l.length ≤ 7) (fun h => by omega), if_pos (decide_eq_true h2)]
   · rw [if_pos (c := 1 ≤ l.length ∧ l.length ≤ 7) ⟨by omega, by omega⟩, if_neg (by simp; omega)]


theorem isSize_ev (n : Int) : Ev (fun _ => impl_isSize.f n) (decide (1 ≤ n) && decide (n ≤ 7)) := by
 unfold impl_isSize.f
 by_cases h : n ≥ 1
 · refine ev_pos h (ev_now ?_)
   have : decide (1 ≤ n) = true := decide_eq_true h
   rw [this]; rfl
 · refine ev_neg h (ev_now ?_)
   have : decide (1 ≤ n) = false := decide_eq_false (by omega)
   rw [this]; rfl

/-! ### factorials, the sorted order -/
theorem fact_tab : ∀ i : Fin 8, impl_factorial.f 20 ((i.val : Nat) : Int) = some ((fac i.val : Nat) : Int) := by decide +kernel
theorem fact_ev (n : Nat) (h : n ≤ 7) : Ev (fun k => impl_factorial.f k (n : Int)) ((fac n : Nat) : Int) := Ev.of (fun k => impl_factorial.mono _ k) (fact_tab ⟨n, by omega⟩)
theorem ways_tab : ∀ i : Fin 8, spec_l2Ways.f 20 ((i.val : Nat) : Int) = some ((fac i.val : Nat) : Int) := by decide +kernel
theorem ways_ev (n : Nat) (h : n ≤ 7) : Ev (fun k => spec_l2Ways.f k (n : Int)) ((fac n : Nat) : Int) := Ev.of (fun k => spec_l2Ways.mono _ k) (ways_tab ⟨n, by omega⟩)
theorem sorted_tab : ∀ i : Fin 8, impl_sorted.f 20 ((i.val : Nat) : Int) = some (iota 1 i.val) := by decide +kernel
theorem sorted_ev (n : Nat) (h : n ≤ 7) : Ev (fun k => impl_sorted.f k (n : Int)) (iota 1 n) := Ev.of (fun k => impl_sorted.mono _ k) (sorted_tab ⟨n, by omega⟩)
theorem delete_ev (l : List Int) (i : Nat) (h : i < l.length) (hl : l.length ≤ 7) : Ev (fun _ => slices_Delete_int_int.f l (i : Int) (wrap64 ((i : Int) + 1))) (l.eraseIdx i) := by
 unfold slices_Delete_int_int.f
 rw [wrap_of (by omega) (by omega)]
 refine ev_pos (by omega) (ev_pos (by omega) (ev_pos (by omega) (ev_now ?_)))
 rw [← take_drop_erase]
 simp

/-! ### shape -/
theorem spec_shape_in (l : List Int) (hl : l.length ≤ 7) (x : Int) (i : Int) (hi : 0 ≤ i ∧ i < l.length) (hx : rd l i = x) (out R : List Int) (ho : out.length ≤ 7) : ∀ (suf pre : List Int) (a : Int), l = pre ++ suf → 0 ≤ a → a + suf.length ≤ 100 → Ev (fun k => spec_l3Shape.l0 k l (out ++ [a + lessN x suf]) (wrap64 (i + 1))) R → Ev (fun k => spec_l3Shape.l1 k l out i a (pre.length : Int)) R := by
 intro suf
 induction suf with
 | nil =>
  intro pre a e h0 h1 hR
  have h := len_end e
  refine ev_succ ?_
  simp only [spec_l3Shape.l1.eq_2]
  refine ev_neg (by omega) (ev_pos (by omega) ?_)
  simpa [lessN] using hR
 | cons c suf ih =>
  intro pre a e h0 h1 hR
  have h := len_mid e
  simp only [List.length_cons] at h1
  refine ev_succ ?_
  simp only [spec_l3Shape.l1.eq_2, rd_mid' e, hx]
  rw [wrap_snoc (pre := pre) (c := c) (by omega)]
  refine ev_pos (by omega) (ev_pos (by omega) (ev_pos (by omega) (ev_pos (by omega) ?_)))
  rw [lessN_cons] at hR
  by_cases hc : c < x
  · refine ev_pos hc ?_
    rw [wrap_of (x := a + 1) (by omega) (by omega)]
    refine ih _ _ (snoc_mid e) (by omega) (by omega) ?_
    rw [if_pos hc] at hR
    rwa [show a + 1 + (lessN x suf : Int) = a + ((1 + lessN x suf : Nat) : Int) by omega]
  · refine ev_neg hc (ih _ _ (snoc_mid e) (by omega) (by omega) ?_)
    rw [if_neg hc] at hR
    simpa using hR
theorem spec_shape_l (l : List Int) (hl : l.length ≤ 7) : ∀ (suf pre out : List Int), l = pre ++ suf → out.length = pre.length → Ev (fun k => spec_l3Shape.l0 k l out (pre.length : Int)) (out ++ suf.map (fun x => ((1 + lessN x l : Nat) : Int))) := by
 intro suf
 induction suf with
 | nil =>
  intro pre out e ho
  have h := len_end e
  refine ev_succ ?_
  simp only [spec_l3Shape.l0.eq_2]
  exact ev_neg (by omega) (ev_now (by simp))
 | cons c suf ih =>
  intro pre out e ho
  have h := len_mid e
  refine ev_succ ?_
  simp only [spec_l3Shape.l0.eq_2]
  refine ev_pos (by omega) (spec_shape_in l hl c _ ⟨by omega, by omega⟩ (rd_mid' e) out _ (by omega) l [] 1 rfl (by omega) (by omega) ?_)
  rw [wrap_snoc (pre := pre) (c := c) (by omega)]
  refine ev_eq (ih _ _ (snoc_mid e) ?_) ?_
  · simp [ho]
  · simp
theorem spec_shape_ev (l : List Int) (hl : l.length ≤ 7) : Ev (fun k => spec_l3Shape.f k l) (shapeL l) := by
 unfold spec_l3Shape.f shapeL
 exact spec_shape_l l hl l [] [] rfl rfl

/-! ### shape: the program -/
theorem impl_shape_in (l : List Int) (hl : l.length ≤ 7) (x : Int) (i : Int) (out R : List Int) (ho : out.length ≤ 7) : ∀ (suf pre : List Int) (a : Int), l = pre ++ suf → 0 ≤ a → a + suf.length ≤ 100 → Ev (fun k => impl_shape.l0 k l (out ++ [a + lessN x suf]) l (l.length : Int) (wrap64 (i + 1))) R → Ev (fun k => impl_shape.l1 k l out x a l (l.length : Int) i l (l.length : Int) (pre.length : Int)) R := by
 intro suf
 induction suf with
 | nil =>
  intro pre a e h0 h1 hR
  have h := len_end e
  refine ev_succ ?_
  simp only [impl_shape.l1.eq_2]
  refine ev_neg (by omega) (ev_pos (by omega) ?_)
  simpa [lessN] using hR
 | cons c suf ih =>
  intro pre a e h0 h1 hR
  have h := len_mid e
  simp only [List.length_cons] at h1
  refine ev_succ ?_
  simp only [impl_shape.l1.eq_2, rd_mid' e]
  rw [wrap_snoc (pre := pre) (c := c) (by omega)]
  refine ev_pos (by omega) (ev_pos (by omega) (ev_pos (by omega) ?_))
  rw [lessN_cons] at hR
  by_cases hc : c < x
  · refine ev_pos hc ?_
    rw [wrap_of (x := a + 1) (by omega) (by omega)]
    refine ih _ _ (snoc_mid e) (by omega) (by omega) ?_
    rw [if_pos hc] at hR
    rwa [show a + 1 + (lessN x suf : Int) = a + ((1 + lessN x suf : Nat) : Int) by omega]
  · refine ev_neg hc (ih _ _ (snoc_mid e) (by omega) (by omega) ?_)
    rw [if_neg hc] at hR
    simpa using hR
theorem impl_shape_l (l : List Int) (hl : l.length ≤ 7) : ∀ (suf pre out : List Int), l = pre ++ suf → out.length = pre.length → Ev (fun k => impl_shape.l0 k l out l (l.length : Int) (pre.length : Int)) (out ++ suf.map (fun x => ((1 + lessN x l : Nat) : Int))) := by
 intro suf
 induction suf with
 | nil =>
  intro pre out e ho
  have h := len_end e
  refine ev_succ ?_
  simp only [impl_shape.l0.eq_2]
  exact ev_neg (by omega) (ev_now (by simp))
 | cons c suf ih =>
  intro pre out e ho
  have h := len_mid e
  refine ev_succ ?_
  simp only [impl_shape.l0.eq_2, rd_mid' e]
  refine ev_pos (by omega) (ev_pos (by omega) (ev_pos (by omega) (impl_shape_in l hl c _ out _ (by omega) l [] 1 rfl (by omega) (by omega) ?_)))
  rw [wrap_snoc (pre := pre) (c := c) (by omega)]
  refine ev_eq (ih _ _ (snoc_mid e) ?_) ?_
  · simp [ho]
  · simp
theorem impl_shape_ev (l : List Int) (hl : l.length ≤ 7) : Ev (fun k => impl_shape.f k l) (shapeL l) := by
 unfold impl_shape.f shapeL
 exact impl_shape_l l hl l [] [] rfl rfl

/-! ### ShapeOf: the program -/
theorem impl_dist_l (l : List Int) (hl : l.length ≤ 7) : ∀ (suf pre : List Int), l = pre ++ suf → Ev (fun k => impl_ShapeOf.l0 k l l (l.length : Int) (pre.length : Int)) (if distGo pre suf = true then (shapeL l, true) else ([], false)) := by
 intro suf
 induction suf with
 | nil =>
  intro pre e
  have h := len_end e
  refine ev_succ ?_
  simp only [impl_ShapeOf.l0.eq_2]
  exact ev_neg (by omega) (ev_bind (impl_shape_ev l hl) (ev_now (by simp [distGo])))
 | cons c suf ih =>
  intro pre e
  have h := len_mid e
  refine ev_succ ?_
  simp only [impl_ShapeOf.l0.eq_2, rd_mid' e, take_mid e]
  rw [wrap_snoc (pre := pre) (c := c) (by omega)]
  refine ev_pos (by omega) (ev_pos (by omega) (ev_pos (by omega) (ev_pos (by omega) (ev_bind (contains_ev pre c (by omega)) ?_))))
  by_cases hc : c ∈ pre
  · exact ev_pos (by simp [hc]) (ev_now (by simp [distGo, hc]))
  · refine ev_neg (by simp [hc]) (ev_eq (ih _ (snoc_mid e)) ?_)
    simp [distGo, hc]
theorem impl_shapeof_ev (l : List Int) (hl : l.length ≤ 140737488351232) : Ev (fun k => impl_ShapeOf.f k l) (shapeR l) := by
 unfold impl_ShapeOf.f shapeR isList
 refine ev_bind (isSize_ev _) ?_
 by_cases h : 1 ≤ l.length ∧ l.length ≤ 7
 · refine ev_pos (by simp; omega) (ev_eq (impl_dist_l l h.2 l [] rfl) ?_)
   simp [h.1, h.2]
 · refine ev_neg (by simp; omega) (ev_now ?_)
   rw [if_neg]; simp; omega

/-! ### all choices, as the reference lists them -/
theorem own_ev (l : List Int) (h : l.length ≤ 1000000) : Ev (fun _ => spec_l1Own.f l) l := by
 unfold spec_l1Own.f
 exact ev_let (ev_pos (by simp; omega) (ev_now (by simp)))

theorem choices_f (n many : Nat) (hn : n ≤ 7) (r : Nat) (L : ∀ (done : List Int) (acc : List (List Int)), done.length + r ≤ n → acc.length + (chL n many r done).length ≤ 1000 → Ev (fun k => spec_l3Choices.l0 k done (n : Int) (many : Int) acc ((n - r : Nat) : Int)) (acc ++ chL n many r done)) :
 ∀ (done : List Int), done.length + r ≤ n → (done = [] ∧ r = n ∨ ∃ d, ∃ x : Int, done = d ++ [x] ∧ x + 1 = ((n - r : Nat) : Int)) → Ev (fun k => spec_l3Choices.f k done (n : Int) (many : Int)) (chA n many r done) := by
 intro done hd hl
 have hb := chL_bound n many r done (by omega)
 refine ev_succ ?_
 simp only [spec_l3Choices.f.eq_2]
 unfold chA
 by_cases hm : done.length = many
 · rw [if_pos hm]; exact ev_pos (by omega) (ev_now rfl)
 · rw [if_neg hm]
   have J : ∀ x : Int, x = ((n - r : Nat) : Int) → Ev (fun k => spec_l3Choices.j0 k done (n : Int) (many : Int) [] x) (chL n many r done) := by
    intro x hx
    refine ev_succ ?_
    simp only [spec_l3Choices.j0.eq_2]
    rw [hx]
    exact ev_eq (L done [] hd (by simp; omega)) (by simp)
   refine ev_neg (by omega) (ev_let ?_)
   rcases hl with ⟨rfl, rfl⟩ | ⟨d, x, rfl, hx⟩
   · exact ev_neg (by simp) (J 0 (by simp))
   · have h1 : ((d ++ [x]).length : Int) = (d.length : Int) + 1 := by simp
     have h2 : rd (d ++ [x]) (((d ++ [x]).length : Int) - 1) = x := by simp [rd]
     rw [wrap_of (x := ((d ++ [x]).length : Int) - 1) (by simp at hd; omega) (by simp at hd; omega), h2]
     exact ev_pos (by omega) (ev_pos (by omega) (ev_pos (by omega) (J _ (by rw [wrap_of (by omega) (by omega)]; exact hx))))
theorem choices_l (n many : Nat) (hn : n ≤ 7) : ∀ (r : Nat), r ≤ n →
 (∀ (done : List Int) (acc : List (List Int)), done.length + r ≤ n → acc.length + (chL n many r done).length ≤ 1000 → Ev (fun k => spec_l3Choices.l0 k done (n : Int) (many : Int) acc ((n - r : Nat) : Int)) (acc ++ chL n many r done)) ∧
 (∀ (done : List Int), done.length + r ≤ n → (done = [] ∧ r = n ∨ ∃ d, ∃ x : Int, done = d ++ [x] ∧ x + 1 = ((n - r : Nat) : Int)) → Ev (fun k => spec_l3Choices.f k done (n : Int) (many : Int)) (chA n many r done)) := by
 intro r
 induction r with
 | zero =>
  intro hr
  have L : ∀ (done : List Int) (acc : List (List Int)), done.length + 0 ≤ n → acc.length + (chL n many 0 done).length ≤ 1000 → Ev (fun k => spec_l3Choices.l0 k done (n : Int) (many : Int) acc ((n - 0 : Nat) : Int)) (acc ++ chL n many 0 done) := by
   intro done acc _ _
   refine ev_succ ?_
   simp only [spec_l3Choices.l0.eq_2]
   exact ev_neg (by omega) (ev_now (by simp [chL]))
  exact ⟨L, fun done hd hl => choices_f n many hn 0 L done hd hl⟩
 | succ r ih =>
  intro hr
  obtain ⟨ih1, ih2⟩ := ih (by omega)
  have L : ∀ (done : List Int) (acc : List (List Int)), done.length + (r + 1) ≤ n → acc.length + (chL n many (r + 1) done).length ≤ 1000 → Ev (fun k => spec_l3Choices.l0 k done (n : Int) (many : Int) acc ((n - (r + 1) : Nat) : Int)) (acc ++ chL n many (r + 1) done) := by
   intro done acc hd ha
   rw [chL_succ] at ha ⊢
   rw [List.length_append] at ha
   refine ev_succ ?_
   simp only [spec_l3Choices.l0.eq_2]
   rw [wrap_of (x := ((n - (r + 1) : Nat) : Int) + 1) (by omega) (by omega), show ((n - (r + 1) : Nat) : Int) + 1 = ((n - r : Nat) : Int) by omega]
   refine ev_pos (by omega) (ev_bind (own_ev done (by omega)) (ev_pos (by omega) (ev_bind (ih2 (done ++ [((n - (r + 1) : Nat) : Int)]) (by simp; omega) (.inr ⟨done, _, rfl, by omega⟩)) (ev_pos (by omega) ?_))))
   refine ev_eq (ih1 done _ (by omega) (by rw [List.length_append]; omega)) ?_
   rw [List.append_assoc]
  exact ⟨L, fun done hd hl => choices_f n many hn (r + 1) L done hd hl⟩

theorem spec_at_l (l xs : List Int) (hl : xs.length ≤ 7) (hq : ∀ x ∈ xs, 0 ≤ x ∧ x < (l.length : Int)) : ∀ (suf pre out : List Int), xs = pre ++ suf → out.length = pre.length → Ev (fun k => spec_l3At.l0 k l xs out (pre.length : Int)) (out ++ atG l suf) := by
 intro suf
 induction suf with
 | nil =>
  intro pre out e ho
  have h := len_end e
  refine ev_succ ?_
  simp only [spec_l3At.l0.eq_2]
  exact ev_neg (by omega) (ev_now (by simp [atG]))
 | cons c suf ih =>
  intro pre out e ho
  have h := len_mid e
  have hc := hq c (by rw [e]; simp)
  refine ev_succ ?_
  simp only [spec_l3At.l0.eq_2, rd_mid' e]
  rw [wrap_snoc (pre := pre) (c := c) (by omega)]
  refine ev_pos (by omega) (ev_pos (by omega) (ev_pos (by omega) (ev_pos (by omega) (ev_pos (by omega) (ev_eq (ih _ _ (snoc_mid e) (by simp [ho])) ?_)))))
  simp [atG]
theorem spec_at_ev (l xs : List Int) (hl : xs.length ≤ 7) (hq : ∀ x ∈ xs, 0 ≤ x ∧ x < (l.length : Int)) : Ev (fun k => spec_l3At.f k l xs) (atG l xs) := by
 unfold spec_l3At.f
 exact spec_at_l l xs hl hq xs [] [] rfl rfl

/-! ### choose, where the callback never stops it -/
theorem loopG_fold {σ : Type} (f : σ → List Int → σ × Bool) (hf : ∀ s xs, (f s xs).2 = false) (n many : Nat) : ∀ (r : Nat) (done : List Int) (s : σ), loopG f n many r done s = ((chL n many r done).foldl (fun s xs => (f s xs).1) s, false) := by
 intro r
 induction r with
 | zero => intro done s; rfl
 | succ r ih =>
  intro done s
  simp only [loopG, chL, List.foldl_append]
  by_cases h : done.length + 1 = many
  · rw [if_pos h, if_pos h, hf, if_neg (by simp), ih]; rfl
  · rw [if_neg h, if_neg h, ih, if_neg (by simp), ih]
theorem addG_fold {σ : Type} (f : σ → List Int → σ × Bool) (hf : ∀ s xs, (f s xs).2 = false) {n many r : Nat} {done : List Int} {s : σ} : addG f n many r done s = ((chA n many r done).foldl (fun s xs => (f s xs).1) s, false) := by
 unfold addG chA
 by_cases h : done.length = many
 · rw [if_pos h, if_pos h]
   have := hf s done
   simp only [List.foldl_cons, List.foldl_nil]
   rw [← this]
 · rw [if_neg h, if_neg h, loopG_fold f hf]

/-! ### the places of a pattern, as the reference lists them -/
def hit (l p xs : List Int) : Bool := decide (shapeL (atG l xs) = p)
theorem places_l (l p : List Int) (hl : l.length ≤ 7) (hp : p.length ≤ 7) (rows : List (List Int)) (hr : rows.length ≤ 200) (hrow : ∀ xs ∈ rows, xs.length = p.length ∧ ∀ x ∈ xs, 0 ≤ x ∧ x < (l.length : Int)) : ∀ (suf pre out : List (List Int)), rows = pre ++ suf → out.length ≤ pre.length → Ev (fun k => spec_l3Places.l0 k l p out rows (pre.length : Int)) (out ++ suf.filter (hit l p)) := by
 intro suf
 induction suf with
 | nil =>
  intro pre out e ho
  have h := len_end e
  refine ev_succ ?_
  simp only [spec_l3Places.l0.eq_2]
  exact ev_neg (by omega) (ev_now (by simp))
 | cons c suf ih =>
  intro pre out e ho
  have h := len_mid e
  obtain ⟨hc1, hc2⟩ := hrow c (by rw [e]; simp)
  have hrd : rd_L2 rows (pre.length : Int) = c := by rw [e]; simp [rd_L2]
  refine ev_succ ?_
  simp only [spec_l3Places.l0.eq_2, hrd]
  rw [wrap_snoc (pre := pre) (c := c) (by omega)]
  have hal : (atG l c).length ≤ 7 := by simp [atG]; omega
  have hsl : (shapeL (atG l c)).length ≤ 7 := by simp [shapeL]; omega
  refine ev_pos (by omega) (ev_pos (by omega) (ev_bind (spec_at_ev l c (by omega) hc2) (ev_bind (spec_shape_ev _ hal) (ev_bind (same_ev _ p (by omega)) ?_))))
  by_cases hh : shapeL (atG l c) = p
  · refine ev_pos (decide_eq_true hh) (ev_pos (by omega) (ev_eq (ih _ _ (snoc_mid e) (by simp; omega)) ?_))
    rw [List.filter_cons, if_pos (show hit l p c = true from decide_eq_true hh)]; simp
  · refine ev_neg (by simpa using hh) (ev_eq (ih _ _ (snoc_mid e) (by simp; omega)) ?_)
    rw [List.filter_cons, if_neg (show ¬ hit l p c = true by simpa [hit] using hh)]
theorem places_ev (l p : List Int) (hl : l.length ≤ 7) (hp : p.length ≤ 7) : Ev (fun k => spec_l3Places.f k l p) ((chA l.length p.length l.length []).filter (hit l p)) := by
 unfold spec_l3Places.f
 have h1 := (choices_l l.length p.length hl l.length (Nat.le_refl _)).2 [] (by simp) (.inl ⟨rfl, rfl⟩)
 have hb := chA_bound l.length p.length l.length [] hl
 have h2 := places_l l p hl hp (chA l.length p.length l.length []) (by omega) (fun xs hx => chA_mem _ _ xs hx) _ [] [] rfl (Nat.le_refl _)
 rw [List.nil_append] at h2
 exact ev_bind h1 h2

/-! ### countPlaces tells how many places there are -/
theorem fold_cp (l p : List Int) : ∀ (L : List (List Int)) (s : Nat), s + L.length ≤ 1000 → L.foldl (fun s xs => (cpF l p s xs).1) (s : Int) = ((s + (L.filter (hit l p)).length : Nat) : Int) := by
 intro L
 induction L with
 | nil => intro s _; simp
 | cons c L ih =>
  intro s h
  simp only [List.length_cons] at h
  rw [List.foldl_cons]
  by_cases hh : shapeL (atG l c) = p
  · have e1 : (cpF l p (s : Int) c).1 = ((s + 1 : Nat) : Int) := by simp only [cpF]; rw [if_pos hh, wrap_of (by omega) (by omega)]; omega
    rw [e1, ih _ (by omega), List.filter_cons, if_pos (show hit l p c = true from decide_eq_true hh)]
    simp; omega
  · have e1 : (cpF l p (s : Int) c).1 = (s : Int) := by simp only [cpF]; rw [if_neg hh]
    rw [e1, ih _ (by omega), List.filter_cons, if_neg (show ¬ hit l p c = true by simpa [hit] using hh)]
theorem cpG_eq (l p : List Int) (hl : l.length ≤ 7) : cpG l p = (((chA l.length p.length l.length []).filter (hit l p)).length : Int) := by
 unfold cpG
 rw [addG_fold (cpF l p) (fun s xs => rfl)]
 have hb := chA_bound l.length p.length l.length [] hl
 have := fold_cp l p (chA l.length p.length l.length []) 0 (by omega)
 simpa using this

/-! ### l3Goes: the search by shapes of beginnings comes to what all choices tell -/
def inB (l p : List Int) : Bool := (chA l.length p.length l.length []).any (hit l p)
theorem ch_ext (n many : Nat) : ∀ (r : Nat) (done xs : List Int), xs ∈ chL n many r done → ∃ t, xs = done ++ t := by
 intro r
 induction r with
 | zero => intro done xs h; cases h
 | succ r ih =>
  intro done xs h
  rw [chL_succ] at h
  rcases List.mem_append.1 h with h | h
  · unfold chA at h
    split at h
    · exact ⟨_, List.mem_singleton.1 h⟩
    · obtain ⟨t, e⟩ := ih _ xs h
      exact ⟨_, by rw [e, List.append_assoc]⟩
  · exact ih done xs h
theorem chA_ext (n many r : Nat) (done xs : List Int) (h : xs ∈ chA n many r done) : ∃ t, xs = done ++ t := by
 unfold chA at h
 split at h
 · exact ⟨[], by simpa using List.mem_singleton.1 h⟩
 · exact ch_ext n many r done xs h
theorem goes_f (l p : List Int) (hl : l.length ≤ 7) (hp : p.length ≤ 7) (hp1 : 1 ≤ p.length) (hs : shapeL p = p) (r : Nat) (done : List Int) (hd : done.length + r ≤ l.length) (hm : done.length ≤ p.length)
 (L : done.length < p.length → Ev (fun k => spec_l3Goes.l0 k l p (atG l done) ((l.length - r : Nat) : Int)) ((chL l.length p.length r done).any (hit l p))) :
 Ev (fun k => spec_l3Goes.f k l p (atG l done) ((l.length - r : Nat) : Int)) ((chA l.length p.length r done).any (hit l p)) := by
 have ha : (atG l done).length = done.length := by simp [atG]
 refine ev_succ ?_
 simp only [spec_l3Goes.f.eq_2]
 have J : ∀ b : Bool, (b = true → (chA l.length p.length r done).any (hit l p) = false) → (b = false → done.length = p.length → shapeL (atG l done) = shapeL (p.take done.length)) → Ev (fun k => spec_l3Goes.j0 k l p (atG l done) ((l.length - r : Nat) : Int) b) ((chA l.length p.length r done).any (hit l p)) := by
  intro b h1 h2
  refine ev_succ ?_
  simp only [spec_l3Goes.j0.eq_2]
  cases b with
  | true => rw [h1 rfl]; exact ev_pos rfl (ev_now rfl)
  | false =>
   refine ev_neg (by simp) ?_
   by_cases hq : done.length = p.length
   · refine ev_pos (by omega) (ev_now ?_)
     have := h2 rfl hq
     rw [hq, List.take_length, hs] at this
     unfold chA
     rw [if_pos hq]
     simp [hit, this]
   · refine ev_neg (by omega) ?_
     unfold chA
     rw [if_neg hq]
     exact L (by omega)
 by_cases hz : (done.length : Int) > 0
 · refine ev_pos (by omega) (ev_bind (spec_shape_ev _ (by omega)) (ev_pos (by omega) (ev_pos (by omega) ?_)))
   rw [show (((atG l done).length : Int)).toNat = done.length by omega]
   refine ev_bind (spec_shape_ev _ (by simp; omega)) (ev_bind (same_ev _ _ (by simp [shapeL]; omega)) (J _ ?_ ?_))
   · intro hb
     have hb : ¬ shapeL (atG l done) = shapeL (p.take done.length) := by simpa using hb
     rw [List.any_eq_false]
     intro xs hx hh
     obtain ⟨t, e⟩ := chA_ext _ _ _ _ _ hx
     refine hb ?_
     have hh : shapeL (atG l xs) = shapeL p := by rw [hs]; simpa [hit] using hh
     have h3 := shape_take hh done.length
     rw [e, show atG l (done ++ t) = atG l done ++ atG l t by simp [atG], List.take_left' ha] at h3
     exact h3
   · intro hb _
     simpa using hb
 · exact ev_neg (by omega) (J false (by simp) (fun _ h => by omega))
theorem goes_l (l p : List Int) (hl : l.length ≤ 7) (hp : p.length ≤ 7) (hp1 : 1 ≤ p.length) (hs : shapeL p = p) : ∀ (r : Nat), r ≤ l.length →
 (∀ (done : List Int), done.length + r ≤ l.length → done.length < p.length → Ev (fun k => spec_l3Goes.l0 k l p (atG l done) ((l.length - r : Nat) : Int)) ((chL l.length p.length r done).any (hit l p))) := by
 intro r
 induction r with
 | zero =>
  intro hr done hd hm
  refine ev_succ ?_
  simp only [spec_l3Goes.l0.eq_2]
  exact ev_neg (by omega) (ev_now (by simp [chL]))
 | succ r ih =>
  intro hr done hd hm
  have ih1 := ih (by omega)
  have ha : (atG l done).length = done.length := by simp [atG]
  refine ev_succ ?_
  simp only [spec_l3Goes.l0.eq_2]
  rw [wrap_of (x := ((l.length - (r + 1) : Nat) : Int) + 1) (by omega) (by omega), show ((l.length - (r + 1) : Nat) : Int) + 1 = ((l.length - r : Nat) : Int) by omega]
  rw [chL_succ, List.any_append]
  have h2 := goes_f l p hl hp hp1 hs r (done ++ [((l.length - (r + 1) : Nat) : Int)]) (by simp; omega) (by simp; omega) (fun hq => ih1 _ (by simp; omega) hq)
  rw [show atG l (done ++ [((l.length - (r + 1) : Nat) : Int)]) = atG l done ++ [rd l ((l.length - (r + 1) : Nat) : Int)] by simp [atG]] at h2
  refine ev_pos (by omega) (ev_bind (own_ev _ (by omega)) (ev_pos (by omega) (ev_let (ev_pos (by simp; omega) (ev_bind h2 ?_)))))
  by_cases hb : (chA l.length p.length r (done ++ [((l.length - (r + 1) : Nat) : Int)])).any (hit l p) = true
  · exact ev_pos hb (ev_now (by rw [hb]; rfl))
  · exact ev_neg hb (ev_eq (ih1 done (by omega) hm) (by simp only [Bool.not_eq_true] at hb; rw [hb]; rfl))
theorem spec_in_ev (l p : List Int) (hl : l.length ≤ 7) (hp : isOrd p = true) : Ev (fun k => spec_l3In.f k l p) (inB l p) := by
 unfold spec_l3In.f inB
 have h1 := ord_len hp
 have h2 := goes_f l p hl h1.2 h1.1 (shape_ord hp) l.length [] (by simp) (by simp) (fun hq => goes_l l p hl h1.2 h1.1 (shape_ord hp) l.length (Nat.le_refl _) [] (by simp) hq)
 rw [Nat.sub_self] at h2
 exact ev_bind h2 (ev_now rfl)

/-! ### choose, where the callback stops it at the first hit -/
def foundR (o : Option (List Int)) (p : (List Int × Bool) × Bool) : Prop :=
 match o with
 | some xs => p = ((xs, true), true)
 | none => p.1.2 = false ∧ p.2 = false
theorem loopG_find {h : List Int → Bool} {f : List Int × Bool → List Int → (List Int × Bool) × Bool} (hf : ∀ s xs, f s xs = ((xs, h xs), h xs)) (n many : Nat) :
 ∀ (r : Nat) (done : List Int) (s : List Int × Bool), s.2 = false → foundR ((chL n many r done).find? h) (loopG f n many r done s) := by
 intro r
 induction r with
 | zero => intro done s hs; exact ⟨hs, rfl⟩
 | succ r ih =>
  intro done s hs
  simp only [loopG, chL, List.find?_append]
  by_cases hm : done.length + 1 = many
  · rw [if_pos hm, if_pos hm, hf]
    by_cases hh : h (done ++ [((n - (r + 1) : Nat) : Int)]) = true
    · rw [hh]; simp [hh, foundR]
    · have hh : h (done ++ [((n - (r + 1) : Nat) : Int)]) = false := by simpa using hh
      rw [hh]
      simp only [List.find?_cons, hh, List.find?_nil, Bool.false_eq_true, if_false, Option.none_or]
      exact ih done _ rfl
  · rw [if_neg hm, if_neg hm]
    have h1 := ih (done ++ [((n - (r + 1) : Nat) : Int)]) s hs
    cases he : (chL n many r (done ++ [((n - (r + 1) : Nat) : Int)])).find? h with
    | some xs =>
     rw [he] at h1
     simp only [foundR] at h1
     rw [h1]; simp [foundR]
    | none =>
     rw [he] at h1
     obtain ⟨h2, h3⟩ := h1
     rw [h3]
     simp only [Bool.false_eq_true, if_false, Option.none_or]
     exact ih done _ h2
theorem addG_find {h : List Int → Bool} {f : List Int × Bool → List Int → (List Int × Bool) × Bool} (hf : ∀ s xs, f s xs = ((xs, h xs), h xs)) (n many r : Nat) (done : List Int) (s : List Int × Bool) (hs : s.2 = false) : foundR ((chA n many r done).find? h) (addG f n many r done s) := by
 unfold addG chA
 by_cases hm : done.length = many
 · rw [if_pos hm, if_pos hm, hf]
   by_cases hh : h done = true
   · rw [hh]; simp [hh, foundR]
   · have hh : h done = false := by simpa using hh
     rw [hh]; simp [hh, foundR]
 · rw [if_neg hm, if_neg hm]; exact loopG_find hf n many r done s hs
def firstR (l p : List Int) : List Int × Bool :=
 match (chA l.length p.length l.length []).find? (hit l p) with
 | some xs => (xs, true)
 | none => ([], false)
theorem fpR_eq (l p : List Int) : fpR l p = firstR l p := by
 have h := addG_find (h := hit l p) (f := fpF l p) (fun s xs => rfl) l.length p.length l.length [] ([], false) rfl
 unfold fpR fpG firstR
 cases he : (chA l.length p.length l.length []).find? (hit l p) with
 | some xs => rw [he] at h; simp only [foundR] at h; rw [h]; rfl
 | none => rw [he] at h; obtain ⟨h2, _⟩ := h; rw [h2]; rfl
theorem impl_first_ev (l p : List Int) (hl : l.length ≤ 7) (hp : p.length ≤ 7) : Ev (fun _ => impl_firstPlaces.f l p) (firstR l p) := by
 unfold impl_firstPlaces.f
 exact ev_pos ⟨hl, hp⟩ (ev_now (fpR_eq l p))
theorem firstR_len (l p : List Int) : (firstR l p).1.length ≤ p.length := by
 unfold firstR
 cases he : (chA l.length p.length l.length []).find? (hit l p) with
 | some xs => exact Nat.le_of_eq (chA_mem _ _ xs (List.mem_of_find?_eq_some he)).1
 | none => exact Nat.zero_le _

theorem inB_first (l p : List Int) : (firstR l p).2 = inB l p := by
 unfold firstR inB
 cases he : (chA l.length p.length l.length []).find? (hit l p) with
 | some xs =>
  have h1 := List.mem_of_find?_eq_some he
  have h2 := List.find?_some he
  exact (List.any_eq_true.2 ⟨xs, h1, h2⟩).symm
 | none =>
  rw [List.find?_eq_none] at he
  exact (List.any_eq_false.2 he).symm
theorem impl_in_ev (l p : List Int) (hl : l.length ≤ 7) (hp : p.length ≤ 7) : Ev (fun _ => impl_contains.f l p) (inB l p) := by
 unfold impl_contains.f
 exact ev_bind (impl_first_ev l p hl hp) (ev_now (inB_first l p))

/-! ### are they patterns? -/
theorem spec_patterns_l (rows : List (List Int)) (hl : rows.length ≤ 1048576) (hr : ∀ xs ∈ rows, xs.length ≤ 1048576) : ∀ (suf pre : List (List Int)), rows = pre ++ suf → pre.length ≤ 5 → (rows.length : Int) ≤ 4 ∨ 4 < (rows.length : Int) → Ev (fun k => spec_l3Patterns.l0 k rows (pre.length : Int)) (decide ((rows.length : Int) ≤ 4) && !suf.any (fun xs => !isOrd xs)) := by
 intro suf
 induction suf with
 | nil =>
  intro pre e hp _
  have h := len_end e
  refine ev_succ ?_
  simp only [spec_l3Patterns.l0.eq_2]
  refine ev_neg (by omega) (ev_succ ?_)
  simp only [spec_l3Patterns.j1.eq_2]
  exact ev_neg (by simp) (ev_now (by simp))
 | cons c suf ih =>
  intro pre e hp hd
  have h := len_mid e
  refine ev_succ ?_
  simp only [spec_l3Patterns.l0.eq_2]
  refine ev_pos (by omega) (ev_succ ?_)
  simp only [spec_l3Patterns.j1.eq_2, rdL_mid e]
  by_cases h4 : (pre.length : Int) ≤ 4
  · refine ev_pos (decide_eq_true h4) (ev_pos (by omega) (ev_pos (by omega) (ev_bind (spec_order_ev c (by have := hr c (by rw [e]; simp); omega)) ?_)))
    by_cases hc : isOrd c = true
    · rw [wrap_snoc (pre := pre) (c := c) (by omega)]
      refine ev_pos hc (ev_eq (ih _ (snoc_mid e) (by simp; omega) hd) ?_)
      simp [hc]
    · exact ev_neg hc (ev_now (by simp [hc]))
  · refine ev_neg (by simpa using h4) (ev_now ?_)
    have : decide ((rows.length : Int) ≤ 4) = false := decide_eq_false (by omega)
    rw [this]; rfl
theorem spec_patterns_ev (rows : List (List Int)) (hl : rows.length ≤ 1048576) (hr : ∀ xs ∈ rows, xs.length ≤ 1048576) : Ev (fun k => spec_l3Patterns.f k rows) (arePats rows) := by
 unfold spec_l3Patterns.f arePats
 exact spec_patterns_l rows hl hr rows [] rfl (by simp) (by omega)
theorem impl_patterns_ev (rows : List (List Int)) (hl : rows.length ≤ 1048576) (hr : ∀ xs ∈ rows, xs.length ≤ 1048576) : Ev (fun _ => impl_arePatterns.f rows) (arePats rows) := by
 unfold impl_arePatterns.f
 exact ev_pos ⟨by omega, fun xs hx => by have := hr xs hx; omega⟩ (ev_now rfl)
theorem pats_all {rows : List (List Int)} (h : arePats rows = true) : rows.length ≤ 4 ∧ ∀ xs ∈ rows, isOrd xs = true := by
 unfold arePats at h
 simp only [Bool.and_eq_true, decide_eq_true_eq, Bool.not_eq_true', List.any_eq_false] at h
 exact ⟨by omega, fun xs hx => by have := h.2 xs hx; simpa using this⟩

/-! ### does an order avoid them all? -/
def avB (l : List Int) (rows : List (List Int)) : Bool := !rows.any (inB l)
theorem spec_avoids_l (l : List Int) (hl : l.length ≤ 7) (rows : List (List Int)) (hn : rows.length ≤ 1048576) (hr : ∀ xs ∈ rows, isOrd xs = true) : ∀ (suf pre : List (List Int)), rows = pre ++ suf → Ev (fun k => spec_l3Avoids.l0 k l rows (pre.length : Int)) (!suf.any (inB l)) := by
 intro suf
 induction suf with
 | nil =>
  intro pre e
  have h := len_end e
  refine ev_succ ?_
  simp only [spec_l3Avoids.l0.eq_2]
  exact ev_neg (by omega) (ev_now rfl)
 | cons c suf ih =>
  intro pre e
  have h := len_mid e
  refine ev_succ ?_
  simp only [spec_l3Avoids.l0.eq_2, rdL_mid e]
  refine ev_pos (by omega) (ev_pos (by omega) (ev_bind (spec_in_ev l c hl (hr c (by rw [e]; simp))) ?_))
  by_cases hc : inB l c = true
  · exact ev_pos hc (ev_now (by simp [hc]))
  · rw [wrap_snoc (pre := pre) (c := c) (by omega)]
    refine ev_neg hc (ev_eq (ih _ (snoc_mid e)) ?_)
    simp only [Bool.not_eq_true] at hc
    rw [List.any_cons, hc, Bool.false_or]
theorem spec_avoids_ev (l : List Int) (hl : l.length ≤ 7) (rows : List (List Int)) (hn : rows.length ≤ 1048576) (hr : ∀ xs ∈ rows, isOrd xs = true) : Ev (fun k => spec_l3Avoids.f k l rows) (avB l rows) := by
 unfold spec_l3Avoids.f
 exact spec_avoids_l l hl rows hn hr rows [] rfl
theorem impl_avoids_ev (l : List Int) (hl : l.length ≤ 7) (rows : List (List Int)) (hn : rows.length ≤ 1048576) (hr : ∀ xs ∈ rows, isOrd xs = true) : Ev (fun _ => impl_avoids.f l rows) (avB l rows) := by
 unfold impl_avoids.f
 refine ev_pos ⟨hl, by omega, fun xs hx => (ord_len (hr xs hx)).2⟩ (ev_now ?_)
 unfold avoidsG avB
 have e : (fun p => (fpR l p).2) = inB l := by funext p; rw [fpR_eq, inB_first]
 rw [e]

/-! ### an order with a last number more -/
theorem spec_ins_l (l : List Int) (q : Int) (hl : l.length ≤ 7) (hr : ∀ x ∈ l, 1 ≤ x ∧ x ≤ 100) : ∀ (suf pre out : List Int), l = pre ++ suf → out.length = pre.length → Ev (fun k => spec_l3Insert.l0 k l q out (pre.length : Int)) (out ++ insertL suf q) := by
 intro suf
 induction suf with
 | nil =>
  intro pre out e ho
  have h := len_end e
  refine ev_succ ?_
  simp only [spec_l3Insert.l0.eq_2]
  exact ev_neg (by omega) (ev_pos (by omega) (ev_now (by simp [insertL])))
 | cons c suf ih =>
  intro pre out e ho
  have h := len_mid e
  have hc := hr c (by rw [e]; simp)
  refine ev_succ ?_
  simp only [spec_l3Insert.l0.eq_2, rd_mid' e]
  rw [wrap_snoc (pre := pre) (c := c) (by omega), wrap_of (x := c + 1) (by omega) (by omega)]
  refine ev_pos (by omega) (ev_pos (by omega) ?_)
  by_cases hq : c ≥ q
  · refine ev_pos hq (ev_pos (by omega) (ev_eq (ih _ _ (snoc_mid e) ?_) ?_))
    · simp [ho]
    · simp [insertL, hq]
  · refine ev_neg hq (ev_pos (by omega) (ev_eq (ih _ _ (snoc_mid e) ?_) ?_))
    · simp [ho]
    · simp [insertL, hq]
theorem spec_ins_ev (l : List Int) (q : Int) (hl : l.length ≤ 7) (hr : ∀ x ∈ l, 1 ≤ x ∧ x ≤ 100) : Ev (fun k => spec_l3Insert.f k l q) (insertL l q) := by
 unfold spec_l3Insert.f
 exact spec_ins_l l q hl hr l [] [] rfl rfl

theorem impl_ins_l (l : List Int) (q : Int) (hl : l.length ≤ 7) (hr : ∀ x ∈ l, 1 ≤ x ∧ x ≤ 100) : ∀ (suf pre out : List Int), l = pre ++ suf → out.length = pre.length → Ev (fun k => impl_insertLast.l0 k q out l (l.length : Int) (pre.length : Int)) (out ++ insertL suf q) := by
 intro suf
 induction suf with
 | nil =>
  intro pre out e ho
  have h := len_end e
  refine ev_succ ?_
  simp only [impl_insertLast.l0.eq_2]
  exact ev_neg (by omega) (ev_pos (by omega) (ev_now (by simp [insertL])))
 | cons c suf ih =>
  intro pre out e ho
  have h := len_mid e
  have hc := hr c (by rw [e]; simp)
  refine ev_succ ?_
  simp only [impl_insertLast.l0.eq_2, rd_mid' e]
  rw [wrap_snoc (pre := pre) (c := c) (by omega), wrap_of (x := c + 1) (by omega) (by omega)]
  refine ev_pos (by omega) (ev_pos (by omega) (ev_pos (by omega) ?_))
  by_cases hq : c ≥ q
  · refine ev_pos hq (ev_pos (by omega) (ev_eq (ih _ _ (snoc_mid e) ?_) ?_))
    · simp [ho]
    · simp [insertL, hq]
  · refine ev_neg hq (ev_pos (by omega) (ev_eq (ih _ _ (snoc_mid e) ?_) ?_))
    · simp [ho]
    · simp [insertL, hq]
theorem impl_ins_ev (l : List Int) (q : Int) (hl : l.length ≤ 7) (hr : ∀ x ∈ l, 1 ≤ x ∧ x ≤ 100) : Ev (fun k => impl_insertLast.f k l q) (insertL l q) := by
 unfold impl_insertLast.f
 exact impl_ins_l l q hl hr l [] [] rfl rfl

theorem spec_insert_ev (l : List Int) (q : Int) (hl : l.length ≤ 140737488351232) : Ev (fun k => spec_InsertLast.f k l q) (insertR l q) := by
 unfold spec_InsertLast.f insertR
 refine ev_bind (spec_order_ev l hl) ?_
 by_cases ho : isOrd l = true
 · have h7 := ord_len ho
   refine ev_pos ho ?_
   by_cases h : (l.length : Int) = 7
   · refine ev_pos h (ev_now ?_)
     rw [if_neg (fun h' => by omega)]
   · refine ev_neg h ?_
     rw [wrap_of (by omega) (by omega)]
     refine ev_bind (in_ev _ _ _) ?_
     by_cases hq : 1 ≤ q ∧ q ≤ (l.length : Int) + 1
     · refine ev_pos (by simp [hq.1, hq.2]) ?_
       rw [if_pos ⟨ho, by omega, hq.1, hq.2⟩]
       exact ev_bind (spec_ins_ev l q h7.2 (fun x hx => by have := ord_range ho x hx; omega)) (ev_now rfl)
     · refine ev_neg (by simp; omega) (ev_now ?_)
       rw [if_neg (fun h' => hq h'.2.2)]
 · refine ev_neg ho (ev_now ?_)
   rw [if_neg (fun h' => ho h'.1)]
theorem impl_insert_ev (l : List Int) (q : Int) (hl : l.length ≤ 140737488351232) : Ev (fun k => impl_InsertLast.f k l q) (insertR l q) := by
 unfold impl_InsertLast.f insertR
 refine ev_bind (impl_order_ev l hl) ?_
 by_cases ho : isOrd l = true
 · have h7 := ord_len ho
   refine ev_pos ho ?_
   by_cases h : (l.length : Int) = 7
   · refine ev_pos h (ev_now ?_)
     rw [if_neg (fun h' => by omega)]
   · refine ev_neg h ?_
     rw [wrap_of (by omega) (by omega)]
     by_cases h1 : q < 1
     · refine ev_pos h1 (ev_now ?_)
       rw [if_neg (fun h' => by omega)]
     refine ev_neg h1 ?_
     by_cases h2 : q > (l.length : Int) + 1
     · refine ev_pos h2 (ev_now ?_)
       rw [if_neg (fun h' => by omega)]
     refine ev_neg h2 ?_
     rw [if_pos ⟨ho, by omega, by omega, by omega⟩]
     exact ev_bind (impl_ins_ev l q h7.2 (fun x hx => by have := ord_range ho x hx; omega)) (ev_now rfl)
 · refine ev_neg ho (ev_now ?_)
   rw [if_neg (fun h' => ho h'.1)]

/-! ### the order with a rank -/
theorem tdiv_nat (a b : Nat) : Int.tdiv (a : Int) (b : Int) = ((a / b : Nat) : Int) := (Int.ofNat_tdiv a b).symm
theorem tmod_nat (a b : Nat) : Int.tmod (a : Int) (b : Int) = ((a % b : Nat) : Int) := (Int.ofNat_tmod a b).symm
theorem rd_getD (l : List Int) (n : Nat) : rd l (n : Int) = l.getD n 0 := by unfold rd; simp
theorem impl_oat_l : ∀ (r : Nat) (left out : List Int) (k : Nat), left.length = r → r ≤ 7 → out.length + r ≤ 7 → k < fac r → Ev (fun n => impl_orderAt.l0 n (k : Int) left out) (out ++ atGo r left k) := by
 intro r
 induction r with
 | zero =>
  intro left out k hl h7 ho hk
  refine ev_succ ?_
  simp only [impl_orderAt.l0.eq_2]
  exact ev_neg (by omega) (ev_now (by simp [atGo]))
 | succ r ih =>
  intro left out k hl h7 ho hk
  have hp := fac_pos r
  have hf := fac_le (n := r) (by omega)
  have hq : k / fac r < r + 1 := by rw [fac] at hk; rw [Nat.div_lt_iff_lt_mul hp]; exact hk
  have hm : k % fac r < fac r := Nat.mod_lt _ hp
  obtain ⟨q, hqe⟩ : ∃ q, q = k / fac r := ⟨_, rfl⟩
  rw [← hqe] at hq
  refine ev_succ ?_
  simp only [impl_orderAt.l0.eq_2]
  rw [wrap_of (x := (left.length : Int) - 1) (by omega) (by omega), show (left.length : Int) - 1 = (r : Int) by omega]
  refine ev_pos (by omega) (ev_bind (fact_ev r (by omega)) ?_)
  rw [tdiv_nat, tmod_nat, ← hqe, wrap_of (x := ((q : Nat) : Int)) (by omega) (by omega)]
  refine ev_neg (by omega) (ev_pos (by omega) (ev_pos (by omega) (ev_pos (by omega) (ev_bind (delete_ev left q (by omega) (by omega)) ?_))))
  rw [rd_getD]
  refine ev_eq (ih _ _ _ (by rw [List.length_eraseIdx_of_lt (by omega)]; omega) (by omega) (by simp; omega) hm) ?_
  simp [atGo, hqe]
theorem spec_oat_l : ∀ (r : Nat) (left out : List Int) (k : Nat), left.length = r → r ≤ 7 → out.length + r ≤ 7 → k < fac r → Ev (fun n => spec_l2At.l0 n (k : Int) out left) (out ++ atGo r left k) := by
 intro r
 induction r with
 | zero =>
  intro left out k hl h7 ho hk
  refine ev_succ ?_
  simp only [spec_l2At.l0.eq_2]
  exact ev_neg (by omega) (ev_now (by simp [atGo]))
 | succ r ih =>
  intro left out k hl h7 ho hk
  have hp := fac_pos r
  have hf := fac_le (n := r) (by omega)
  have hq : k / fac r < r + 1 := by rw [fac] at hk; rw [Nat.div_lt_iff_lt_mul hp]; exact hk
  have hm : k % fac r < fac r := Nat.mod_lt _ hp
  obtain ⟨q, hqe⟩ : ∃ q, q = k / fac r := ⟨_, rfl⟩
  rw [← hqe] at hq
  refine ev_succ ?_
  simp only [spec_l2At.l0.eq_2]
  rw [wrap_of (x := (left.length : Int) - 1) (by omega) (by omega), show (left.length : Int) - 1 = (r : Int) by omega]
  refine ev_pos (by omega) (ev_bind (ways_ev r (by omega)) ?_)
  rw [tdiv_nat, tmod_nat, ← hqe, wrap_of (x := ((q : Nat) : Int)) (by omega) (by omega), wrap_of (x := ((q : Nat) : Int) + 1) (by omega) (by omega)]
  refine ev_neg (by omega) (ev_pos (by omega) (ev_pos (by omega) (ev_pos (by omega) (ev_pos (by omega) (ev_bind (own_ev _ (by simp; omega)) (ev_pos (by omega) (ev_pos (by omega) (ev_let (ev_pos (by simp; omega) ?_)))))))))
  rw [rd_getD, show ((((q : Nat) : Int)).toNat) = q by omega, show (((((q : Nat) : Int)) + 1).toNat) = q + 1 by omega, take_drop_erase]
  refine ev_eq (ih _ _ _ (by rw [List.length_eraseIdx_of_lt (by omega)]; omega) (by omega) (by simp; omega) hm) ?_
  simp [atGo, hqe]
theorem spec_sorted_tab : ∀ i : Fin 8, spec_l2Sorted.f 20 ((i.val : Nat) : Int) = some (iota 1 i.val) := by decide +kernel
theorem spec_sorted_ev (n : Nat) (h : n ≤ 7) : Ev (fun k => spec_l2Sorted.f k (n : Int)) (iota 1 n) := Ev.of (fun k => spec_l2Sorted.mono _ k) (spec_sorted_tab ⟨n, by omega⟩)

/-! ### all orders -/
theorem impl_orders_l (n : Nat) (hn : n ≤ 7) : ∀ (d j : Nat), j + d = fac n → Ev (fun k => impl_allOrders.l0 k (n : Int) ((List.range j).map (orderAtL n)) (fac n : Int) (j : Int)) (ordersL n) := by
 intro d
 have hf := fac_le hn
 induction d with
 | zero =>
  intro j e
  refine ev_succ ?_
  simp only [impl_allOrders.l0.eq_2]
  exact ev_neg (by omega) (ev_now (by unfold ordersL; rw [← e]; rfl))
 | succ d ih =>
  intro j e
  refine ev_succ ?_
  simp only [impl_allOrders.l0.eq_2]
  rw [wrap_of (x := (j : Int) + 1) (by omega) (by omega)]
  refine ev_pos (by omega) (ev_bind (a := orderAtL n j) ?_ (ev_pos (by simp; omega) ?_))
  · unfold impl_orderAt.f
    refine ev_bind (sorted_ev n hn) ?_
    exact impl_oat_l n (iota 1 n) [] j (iota_length _ _) (by omega) (by simp; omega) (by omega)
  · have h := ih (j + 1) (by omega)
    rw [List.range_succ, List.map_append] at h
    exact h
theorem impl_orders_ev (n : Nat) (hn : n ≤ 7) : Ev (fun k => impl_allOrders.f k (n : Int)) (ordersL n) := by
 unfold impl_allOrders.f
 exact ev_bind (fact_ev n hn) (impl_orders_l n hn (fac n) 0 (by omega))
theorem spec_orders_l (n : Nat) (hn : n ≤ 7) : ∀ (d j : Nat), j + d = fac n → Ev (fun k => spec_l2Orders.l0 k (n : Int) ((List.range j).map (orderAtL n)) (j : Int)) (ordersL n) := by
 intro d
 have hf := fac_le hn
 induction d with
 | zero =>
  intro j e
  refine ev_succ ?_
  simp only [spec_l2Orders.l0.eq_2]
  exact ev_bind (ways_ev n hn) (ev_neg (by omega) (ev_now (by unfold ordersL; rw [← e]; rfl)))
 | succ d ih =>
  intro j e
  refine ev_succ ?_
  simp only [spec_l2Orders.l0.eq_2]
  rw [wrap_of (x := (j : Int) + 1) (by omega) (by omega)]
  refine ev_bind (ways_ev n hn) (ev_pos (by omega) (ev_bind (a := orderAtL n j) ?_ (ev_pos (by simp; omega) ?_)))
  · unfold spec_l2At.f
    refine ev_bind (spec_sorted_ev n hn) ?_
    exact spec_oat_l n (iota 1 n) [] j (iota_length _ _) (by omega) (by simp; omega) (by omega)
  · have h := ih (j + 1) (by omega)
    rw [List.range_succ, List.map_append] at h
    exact h
theorem spec_orders_ev (n : Nat) (hn : n ≤ 7) : Ev (fun k => spec_l2Orders.f k (n : Int)) (ordersL n) := by
 unfold spec_l2Orders.f
 exact spec_orders_l n hn (fac n) 0 (by omega)

/-! ### l3Avoiding, impl.avoiding -/
theorem avB_eq (rows : List (List Int)) (l : List Int) : avB l rows = avV rows l := rfl
theorem kids_range (rows : List (List Int)) {m : Nat} {x y : List Int} (h : y ∈ kids rows m x) : ∃ k, y = insertL x k := by
 obtain ⟨k, _, rfl⟩ := List.mem_map.1 (List.mem_filter.1 h).1
 exact ⟨k, rfl⟩
/-- the last numbers x9, .. of one order -/
def kidsFrom (rows : List (List Int)) (x : List Int) (a : Int) (d : Nat) : List (List Int) := ((iota a d).map (insertL x)).filter (avV rows)
theorem av_l2 (n : Int) (rows : List (List Int)) (hn : rows.length ≤ 1048576) (hr : ∀ xs ∈ rows, isOrd xs = true) (gen : List (List Int)) (i : Nat) (hi : i ≤ 6) (x : List Int) (hx : x.Perm (iota 1 i)) (j : Int) (hj0 : 0 ≤ j) (hj : j < (gen.length : Int)) (hrd : rd_L2 gen j = x) (R : List (List Int)) :
 ∀ (d : Nat) (a : Int) (acc : List (List Int)), a + d = (i : Int) + 2 → 1 ≤ a → acc.length + d ≤ 1000000 → Ev (fun k => spec_l3Avoiding.l1 k n rows gen (i : Int) (acc ++ kidsFrom rows x a d) (wrap64 (j + 1))) R → Ev (fun k => spec_l3Avoiding.l2 k n rows gen (i : Int) acc j a) R := by
 have hl : x.length = i := by rw [hx.length_eq, iota_length]
 intro d
 induction d with
 | zero =>
  intro a acc e ha hac hR
  refine ev_succ ?_
  simp only [spec_l3Avoiding.l2.eq_2]
  rw [wrap_of (x := (i : Int) + 1) (by omega) (by omega)]
  refine ev_neg (by omega) ?_
  simpa [kidsFrom, iota] using hR
 | succ d ih =>
  intro a acc e ha hac hR
  refine ev_succ ?_
  simp only [spec_l3Avoiding.l2.eq_2, hrd]
  rw [wrap_of (x := (i : Int) + 1) (by omega) (by omega), wrap_of (x := a + 1) (by omega) (by omega)]
  have hrange : ∀ y ∈ x, 1 ≤ y ∧ y ≤ 100 := fun y hy => by have := (iota_mem i 1 y).1 (hx.mem_iff.1 hy); omega
  refine ev_pos (by omega) (ev_pos hj0 (ev_pos hj (ev_bind (spec_ins_ev x a (by omega) hrange) (ev_bind (spec_avoids_ev (insertL x a) (by simp [insertL]; omega) rows hn hr) ?_))))
  have hk : kidsFrom rows x a (d + 1) = if avV rows (insertL x a) = true then insertL x a :: kidsFrom rows x (a + 1) d else kidsFrom rows x (a + 1) d := by
   simp only [kidsFrom, iota, List.map_cons, List.filter_cons]
  rw [avB_eq]
  rw [hk] at hR
  by_cases hv : avV rows (insertL x a) = true
  · rw [if_pos hv] at hR
    refine ev_pos hv (ev_pos (by omega) (ih (a + 1) _ (by omega) (by omega) (by simp; omega) ?_))
    simpa using hR
  · rw [if_neg hv] at hR
    exact ev_neg hv (ih (a + 1) acc (by omega) (by omega) (by omega) hR)
theorem av_l1 (n : Int) (rows : List (List Int)) (hn : rows.length ≤ 1048576) (hr : ∀ xs ∈ rows, isOrd xs = true) (gen : List (List Int)) (hg : gen.length ≤ 5040) (i : Nat) (hi : i ≤ 6) (hgen : ∀ x ∈ gen, x.Perm (iota 1 i)) (R : List (List Int)) :
 ∀ (suf pre : List (List Int)), gen = pre ++ suf → Ev (fun k => spec_l3Avoiding.l0 k n rows (gen.flatMap (kids rows (i + 1))) (wrap64 ((i : Int) + 1))) R → Ev (fun k => spec_l3Avoiding.l1 k n rows gen (i : Int) (pre.flatMap (kids rows (i + 1))) (pre.length : Int)) R := by
 intro suf
 induction suf with
 | nil =>
  intro pre e hR
  have h := len_end e
  refine ev_succ ?_
  simp only [spec_l3Avoiding.l1.eq_2]
  refine ev_neg (by omega) ?_
  rw [List.append_nil] at e
  rwa [e] at hR
 | cons c suf ih =>
  intro pre e hR
  have h := len_mid e
  have hb := flat_len rows (i + 1) pre
  have hb2 : pre.length * (i + 1) ≤ 5040 * 7 := Nat.mul_le_mul (by omega) (by omega)
  refine ev_succ ?_
  simp only [spec_l3Avoiding.l1.eq_2]
  refine ev_pos (by omega) (av_l2 n rows hn hr gen i hi c (hgen c (by rw [e]; simp)) (pre.length : Int) (by omega) (by omega) (rdL_mid e) R (i + 1) 1 _ (by omega) (by omega) (by omega) ?_)
  rw [wrap_snoc (pre := pre) (c := c) (by omega)]
  have := ih (pre ++ [c]) (snoc_mid e) hR
  rw [List.flatMap_append] at this
  have e2 : List.flatMap (kids rows (i + 1)) [c] = kidsFrom rows c 1 (i + 1) := by simp [kids, kidsFrom]
  rw [e2] at this
  exact this
theorem av_l0 (n : Nat) (h7 : n ≤ 7) (rows : List (List Int)) (hn : rows.length ≤ 1048576) (hr : ∀ xs ∈ rows, isOrd xs = true) : ∀ (d i : Nat), i + d = n → Ev (fun k => spec_l3Avoiding.l0 k (n : Int) rows (avG rows i) (i : Int)) (avG rows n) := by
 have hp1 : ∀ p ∈ rows, 1 ≤ p.length := fun p hp => (ord_len (hr p hp)).1
 intro d
 induction d with
 | zero =>
  intro i e
  obtain rfl : i = n := by omega
  refine ev_succ ?_
  simp only [spec_l3Avoiding.l0.eq_2]
  exact ev_neg (by omega) (ev_now rfl)
 | succ d ih =>
  intro i e
  have hl := avG_len rows i
  have hf := fac_le (n := i) (by omega)
  refine ev_succ ?_
  simp only [spec_l3Avoiding.l0.eq_2]
  refine ev_pos (by omega) ?_
  have := av_l1 (n : Int) rows hn hr (avG rows i) (by omega) i (by omega) (fun x hx => ((avG_mem rows hp1 i x).1 hx).1) (avG rows n) (avG rows i) [] rfl (by
   rw [wrap_of (by omega) (by omega)]
   exact ih (i + 1) (by omega))
  exact this
theorem spec_avoiding_ev (n : Nat) (h7 : n ≤ 7) (rows : List (List Int)) (hn : rows.length ≤ 1048576) (hr : ∀ xs ∈ rows, isOrd xs = true) : Ev (fun k => spec_l3Avoiding.f k (n : Int) rows) (avG rows n) := by
 unfold spec_l3Avoiding.f
 exact av_l0 n h7 rows hn hr n 0 (by omega)
theorem impl_avoiding_ev (n : Nat) (h1 : 1 ≤ n) (h7 : n ≤ 7) (rows : List (List Int)) (hn : rows.length ≤ 1048576) (hr : ∀ xs ∈ rows, isOrd xs = true) : Ev (fun k => impl_avoiding.f k (n : Int) rows) ((ordersL n).filter (avV rows)) := by
 unfold impl_avoiding.f
 have hf := fac_le h7
 have hp := fac_pos n
 have hlen := ordersL_len n
 refine ev_bind (impl_orders_ev n h7) (ev_pos ⟨by omega, by omega⟩ ?_)
 exact keepM_ev (g := fun _ c => impl_avoids.f c rows) (ordersL n) (fun c hc => impl_avoids_ev c (by have := ordersL_mem hc; omega) rows hn hr)

/-! ### FnExactCountAvoiding -/
def caR (a : Int) (rows : List (List Int)) : Int × Bool := if (1 ≤ a ∧ a ≤ 7) ∧ arePats rows = true then (((avG rows a.toNat).length : Int), true) else (0, false)
theorem spec_ca_ev (a : Int) (rows : List (List Int)) (hn : rows.length ≤ 1048576) (hr : ∀ xs ∈ rows, xs.length ≤ 1048576) : Ev (fun k => spec_CountAvoiding.f k a rows) (caR a rows) := by
 unfold spec_CountAvoiding.f
 have hs : Ev (fun _ => spec_l3Size.f a) (decide (1 ≤ a) && decide (a ≤ 7)) := by
  unfold spec_l3Size.f
  exact ev_bind (in_ev a 1 7) (ev_now rfl)
 refine ev_bind hs ?_
 by_cases h : 1 ≤ a ∧ a ≤ 7
 · refine ev_pos (by simp; omega) (ev_bind (spec_patterns_ev rows hn hr) ?_)
   by_cases h2 : arePats rows = true
   · obtain ⟨n, rfl⟩ : ∃ n : Nat, a = (n : Int) := ⟨a.toNat, by omega⟩
     exact ev_pos h2 (ev_bind (spec_avoiding_ev n (by omega) rows hn (pats_all h2).2) (ev_now (by unfold caR; rw [if_pos ⟨h, h2⟩]; rfl)))
   · exact ev_neg h2 (ev_now (by unfold caR; rw [if_neg (fun hh => h2 hh.2)]))
 · refine ev_neg ?_ (ev_now (by unfold caR; rw [if_neg (fun hh => h hh.1)]))
   simp only [Bool.and_eq_true, decide_eq_true_eq]; omega
theorem impl_ca_ev (a : Int) (rows : List (List Int)) (hn : rows.length ≤ 1048576) (hr : ∀ xs ∈ rows, xs.length ≤ 1048576) : Ev (fun k => impl_CountAvoiding.f k a rows) (caR a rows) := by
 unfold impl_CountAvoiding.f
 refine ev_bind (isSize_ev a) ?_
 by_cases h : 1 ≤ a ∧ a ≤ 7
 · refine ev_pos (by simp; omega) (ev_bind (impl_patterns_ev rows hn hr) ?_)
   by_cases h2 : arePats rows = true
   · obtain ⟨n, rfl⟩ : ∃ n : Nat, a = (n : Int) := ⟨a.toNat, by omega⟩
     have hp1 : ∀ p ∈ rows, 1 ≤ p.length := fun p hp => (ord_len ((pats_all h2).2 p hp)).1
     refine ev_pos h2 (ev_bind (impl_avoiding_ev n (by omega) (by omega) rows hn (pats_all h2).2) (ev_now ?_))
     unfold caR
     rw [if_pos ⟨h, h2⟩, (av_perm rows hp1 (n := n) (by omega) (by omega)).length_eq]; rfl
   · exact ev_neg h2 (ev_now (by unfold caR; rw [if_neg (fun hh => h2 hh.2)]))
 · refine ev_neg ?_ (ev_now (by unfold caR; rw [if_neg (fun hh => h hh.1)]))
   simp only [Bool.and_eq_true, decide_eq_true_eq]; omega
/-! ### FnExactFirstAvoiding -/
theorem befB_asymm : ∀ (a b : List Int), befB a b = true → befB b a = false := by
 intro a
 induction a with
 | nil => intro b h; cases b <;> simp [befB] at h ⊢
 | cons c s ih =>
  intro b h
  cases b with
  | nil => simp [befB]
  | cons d t =>
   simp only [befB] at h ⊢
   by_cases e : c = d
   · subst e
     rw [if_pos rfl] at h ⊢
     exact ih t h
   · rw [if_neg e] at h
     rw [if_neg (fun e2 => e e2.symm)]
     have := of_decide_eq_true h
     exact decide_eq_false (by omega)
theorem before_l (a b : List Int) (ha : a.length ≤ 100) : ∀ (s t pre q : List Int), a = pre ++ s → b = q ++ t → pre.length = q.length → s.length = t.length → Ev (fun k => spec_l2Before.l0 k a b (pre.length : Int)) (befB s t) := by
 intro s
 induction s with
 | nil =>
  intro t pre q e e' h1 h2
  have h := len_end e
  refine ev_succ ?_
  simp only [spec_l2Before.l0.eq_2]
  refine ev_neg (by omega) ?_
  exact ev_now (by cases t <;> simp [befB])
 | cons c s ih =>
  intro t pre q e e' h1 h2
  cases t with
  | nil => simp at h2
  | cons d t =>
  have h := len_mid e
  have h' := len_mid e'
  refine ev_succ ?_
  have r1 := rd_mid' e
  have r2 := rd_mid' e'
  rw [← h1] at r2
  simp only [spec_l2Before.l0.eq_2, r1, r2]
  refine ev_pos (by omega) (ev_pos (by omega) (ev_pos (by omega) ?_))
  by_cases hc : c = d
  · refine ev_pos hc ?_
    rw [wrap_snoc (pre := pre) (c := c) (by omega)]
    refine ev_eq (ih t (pre ++ [c]) (q ++ [d]) (snoc_mid e) (snoc_mid e') (by simp [h1]) (by simpa using h2)) ?_
    simp [befB, hc]
  · refine ev_neg hc (ev_now ?_)
    simp [befB, hc]
theorem before_ev (a b : List Int) (ha : a.length ≤ 100) (h : a.length = b.length) : Ev (fun k => spec_l2Before.f k a b) (befB a b) := by
 unfold spec_l2Before.f
 exact before_l a b ha a b [] [] rfl rfl rfl h
theorem first_l (all : List (List Int)) (h0 : List Int) (hm : h0 ∈ all) (hf : ∀ c ∈ all, c ≠ h0 → befB h0 c = true) (hl : ∀ c ∈ all, c.length = h0.length) (h7 : h0.length ≤ 7) (ha : all.length ≤ 10000) :
 ∀ (suf pre : List (List Int)) (best : List Int), all = pre ++ suf → best ∈ pre → (h0 ∈ pre → best = h0) → Ev (fun k => spec_FirstAvoiding.l0 k all best (pre.length : Int)) (h0, true) := by
 intro suf
 induction suf with
 | nil =>
  intro pre best e hb hh
  have h := len_end e
  refine ev_succ ?_
  simp only [spec_FirstAvoiding.l0.eq_2]
  refine ev_neg (by omega) ?_
  rw [List.append_nil] at e
  exact ev_now (by rw [hh (e ▸ hm)])
 | cons c suf ih =>
  intro pre best e hb hh
  have h := len_mid e
  have hrd : rd_L2 all (pre.length : Int) = c := by rw [e]; simp [rd_L2]
  have hc : c ∈ all := by rw [e]; simp
  have hbm : best ∈ all := by rw [e]; exact List.mem_append_left _ hb
  have l1 := hl c hc
  have l2 := hl best hbm
  refine ev_succ ?_
  simp only [spec_FirstAvoiding.l0.eq_2, hrd]
  rw [wrap_snoc (pre := pre) (c := c) (by omega)]
  refine ev_pos (by omega) (ev_pos (by omega) (ev_bind (before_ev c best (by omega) (by omega)) ?_))
  by_cases hv : befB c best = true
  · refine ev_pos hv (ih (pre ++ [c]) c (snoc_mid e) (by simp) (fun hp => ?_))
    by_cases ec : c = h0
    · exact ec
    · rcases List.mem_append.1 hp with hp | hp
      · rw [hh hp] at hv
        rw [befB_asymm _ _ (hf c hc ec)] at hv
        cases hv
      · exact (List.mem_singleton.1 hp).symm
  · refine ev_neg hv (ih (pre ++ [c]) best (snoc_mid e) (List.mem_append_left _ hb) (fun hp => ?_))
    rcases List.mem_append.1 hp with hp | hp
    · exact hh hp
    · have ec := List.mem_singleton.1 hp
      by_cases eb : best = h0
      · exact eb
      · exact absurd (ec ▸ hf best hbm eb) hv
def faR (a : Int) (rows : List (List Int)) : List Int × Bool := if (1 ≤ a ∧ a ≤ 7) ∧ arePats rows = true then (match (ordersL a.toNat).filter (avV rows) with | [] => ([], false) | c :: _ => (c, true)) else ([], false)
theorem faR_len (a : Int) (rows : List (List Int)) : (faR a rows).1.length ≤ 1048576 := by
 unfold faR
 split
 · rename_i h
   split
   · simp
   · rename_i c t e
     have hc : c ∈ (ordersL a.toNat).filter (avV rows) := by rw [e]; simp
     have := ordersL_mem (List.mem_filter.1 hc).1
     simp only; omega
 · simp
theorem spec_fa_ev (a : Int) (rows : List (List Int)) (hn : rows.length ≤ 1048576) (hr : ∀ xs ∈ rows, xs.length ≤ 1048576) : Ev (fun k => spec_FirstAvoiding.f k a rows) (faR a rows) := by
 unfold spec_FirstAvoiding.f
 have hs : Ev (fun _ => spec_l3Size.f a) (decide (1 ≤ a) && decide (a ≤ 7)) := by
  unfold spec_l3Size.f
  exact ev_bind (in_ev a 1 7) (ev_now rfl)
 refine ev_bind hs ?_
 by_cases h : 1 ≤ a ∧ a ≤ 7
 · refine ev_pos (by simp; omega) (ev_bind (spec_patterns_ev rows hn hr) ?_)
   by_cases h2 : arePats rows = true
   · obtain ⟨n, rfl⟩ : ∃ n : Nat, a = (n : Int) := ⟨a.toNat, by omega⟩
     have hp1 : ∀ p ∈ rows, 1 ≤ p.length := fun p hp => (ord_len ((pats_all h2).2 p hp)).1
     have hpm := av_perm rows hp1 (n := n) (by omega) (by omega)
     have hlen := avG_len rows n
     have hfac := fac_le (n := n) (by omega)
     refine ev_succ ?_
     simp only [spec_FirstAvoiding.j0.eq_2]
     refine ev_neg (by simp [h2]) (ev_bind (spec_avoiding_ev n (by omega) rows hn (pats_all h2).2) ?_)
     have hR : faR (n : Int) rows = (match (ordersL n).filter (avV rows) with | [] => ([], false) | c :: _ => (c, true)) := by
      unfold faR; rw [if_pos ⟨h, h2⟩]; rfl
     rw [hR]
     cases hL : (ordersL n).filter (avV rows) with
     | nil =>
      rw [hL] at hpm
      have e := hpm.symm.eq_nil
      rw [e]
      exact ev_pos (by simp) (ev_now rfl)
     | cons c t =>
      rw [hL] at hpm
      have hmem : ∀ x, x ∈ avG rows n ↔ x ∈ c :: t := fun x => hpm.symm.mem_iff
      have hbef : (c :: t).Pairwise (fun a b => befB a b = true) := hL ▸ (ordersL_bef n).filter _
      rw [List.pairwise_cons] at hbef
      have hlx : ∀ x ∈ c :: t, x.length = n := fun x hx => ordersL_mem (List.mem_filter.1 (hL ▸ hx)).1
      have hlc := hlx c (by simp)
      cases hA : avG rows n with
      | nil => have := (hmem c).2 (by simp); rw [hA] at this; cases this
      | cons d u =>
       refine ev_neg (by simp; omega) (ev_pos (by simp) ?_)
       rw [hA] at hmem hlen
       refine first_l (d :: u) c ((hmem c).2 (by simp)) (fun x hx hne => ?_) (fun x hx => by rw [hlx x ((hmem x).1 hx), hlc]) (by omega) (by omega) u [d] d rfl (by simp) (fun hp => (List.mem_singleton.1 hp).symm)
       rcases List.mem_cons.1 ((hmem x).1 hx) with e | e
       · exact absurd e hne
       · exact hbef.1 x e
   · refine ev_succ ?_
     simp only [spec_FirstAvoiding.j0.eq_2]
     exact ev_pos (by simpa using h2) (ev_now (by unfold faR; rw [if_neg (fun hh => h2 hh.2)]))
 · refine ev_neg ?_ (ev_succ ?_)
   · simp only [Bool.and_eq_true, decide_eq_true_eq]; omega
   · simp only [spec_FirstAvoiding.j0.eq_2]
     exact ev_pos trivial (ev_now (by unfold faR; rw [if_neg (fun hh => h hh.1)]))
theorem impl_fa_ev (a : Int) (rows : List (List Int)) (hn : rows.length ≤ 1048576) (hr : ∀ xs ∈ rows, xs.length ≤ 1048576) : Ev (fun k => impl_FirstAvoiding.f k a rows) (faR a rows) := by
 unfold impl_FirstAvoiding.f
 refine ev_bind (isSize_ev a) ?_
 by_cases h : 1 ≤ a ∧ a ≤ 7
 · refine ev_pos (by simp; omega) (ev_bind (impl_patterns_ev rows hn hr) ?_)
   by_cases h2 : arePats rows = true
   · obtain ⟨n, rfl⟩ : ∃ n : Nat, a = (n : Int) := ⟨a.toNat, by omega⟩
     refine ev_succ ?_
     simp only [impl_FirstAvoiding.j0.eq_2]
     refine ev_neg (by simp [h2]) (ev_bind (impl_avoiding_ev n (by omega) (by omega) rows hn (pats_all h2).2) ?_)
     have hR : faR (n : Int) rows = (match (ordersL n).filter (avV rows) with | [] => ([], false) | c :: _ => (c, true)) := by
      unfold faR; rw [if_pos ⟨h, h2⟩]; rfl
     rw [hR]
     cases hL : (ordersL n).filter (avV rows) with
     | nil => exact ev_pos (by simp) (ev_now rfl)
     | cons c t => exact ev_neg (by simp; omega) (ev_pos (by simp) (ev_now (by simp [rd_L2])))
   · refine ev_succ ?_
     simp only [impl_FirstAvoiding.j0.eq_2]
     exact ev_pos (by simpa using h2) (ev_now (by unfold faR; rw [if_neg (fun hh => h2 hh.2)]))
 · refine ev_neg ?_ (ev_succ ?_)
   · simp only [Bool.and_eq_true, decide_eq_true_eq]; omega
   · simp only [impl_FirstAvoiding.j0.eq_2]
     exact ev_pos trivial (ev_now (by unfold faR; rw [if_neg (fun hh => h hh.1)]))
/-! ### FnExactCountChildren -/
def cnt (a : List Int) (rows : List (List Int)) : Nat → Int → Int
 | 0, _ => 0
 | d + 1, x => (if avB (insertL a x) rows = true then 1 else 0) + cnt a rows d (x + 1)
theorem cnt_bound (a : List Int) (rows : List (List Int)) : ∀ (d : Nat) (x : Int), 0 ≤ cnt a rows d x ∧ cnt a rows d x ≤ d := by
 intro d
 induction d with
 | zero => intro x; simp [cnt]
 | succ d ih =>
  intro x
  have := ih (x + 1)
  simp only [cnt]
  split <;> omega
theorem ins_len (a : List Int) (q : Int) : (insertL a q).length = a.length + 1 := by simp [insertL]
theorem spec_cc_l (a : List Int) (rows : List (List Int)) (ho : isOrd a = true) (h7 : a.length ≤ 6) (hn : rows.length ≤ 1048576) (hr : ∀ xs ∈ rows, isOrd xs = true) : ∀ (d : Nat) (x c : Int), x + d = (a.length : Int) + 2 → 0 ≤ c → c + d ≤ 100 → 1 ≤ x → Ev (fun k => spec_CountChildren.l0 k a rows c x) (c + cnt a rows d x, true) := by
 intro d
 induction d with
 | zero =>
  intro x c hx h0 h1 h2
  refine ev_succ ?_
  simp only [spec_CountChildren.l0.eq_2]
  rw [wrap_of (x := (a.length : Int) + 1) (by omega) (by omega)]
  exact ev_neg (by omega) (ev_now (by simp [cnt]))
 | succ d ih =>
  intro x c hx h0 h1 h2
  refine ev_succ ?_
  simp only [spec_CountChildren.l0.eq_2, cnt]
  rw [wrap_of (x := (a.length : Int) + 1) (by omega) (by omega), wrap_of (x := x + 1) (by omega) (by omega), wrap_of (x := c + 1) (by omega) (by omega)]
  refine ev_pos (by omega) (ev_bind (spec_ins_ev a x (by omega) (fun y hy => by have := ord_range ho y hy; omega)) (ev_bind (spec_avoids_ev _ (by rw [ins_len]; omega) rows hn hr) ?_))
  by_cases hc : avB (insertL a x) rows = true
  · rw [if_pos hc]
    exact ev_pos hc (ev_eq (ih (x + 1) (c + 1) (by omega) (by omega) (by omega) (by omega)) (by congr 1; omega))
  · rw [if_neg hc]
    exact ev_neg hc (ev_eq (ih (x + 1) c (by omega) (by omega) (by omega) (by omega)) (by congr 1; omega))
theorem impl_cc_l (a : List Int) (rows : List (List Int)) (ho : isOrd a = true) (h7 : a.length ≤ 6) (hn : rows.length ≤ 1048576) (hr : ∀ xs ∈ rows, isOrd xs = true) : ∀ (d : Nat) (x c : Int), x + d = (a.length : Int) + 2 → 0 ≤ c → c + d ≤ 100 → 1 ≤ x → Ev (fun k => impl_CountChildren.l0 k a rows c x) (c + cnt a rows d x, true) := by
 intro d
 induction d with
 | zero =>
  intro x c hx h0 h1 h2
  refine ev_succ ?_
  simp only [impl_CountChildren.l0.eq_2]
  rw [wrap_of (x := (a.length : Int) + 1) (by omega) (by omega)]
  exact ev_neg (by omega) (ev_now (by simp [cnt]))
 | succ d ih =>
  intro x c hx h0 h1 h2
  refine ev_succ ?_
  simp only [impl_CountChildren.l0.eq_2, cnt]
  rw [wrap_of (x := (a.length : Int) + 1) (by omega) (by omega), wrap_of (x := x + 1) (by omega) (by omega), wrap_of (x := c + 1) (by omega) (by omega)]
  refine ev_pos (by omega) (ev_bind (impl_ins_ev a x (by omega) (fun y hy => by have := ord_range ho y hy; omega)) (ev_bind (impl_avoids_ev _ (by rw [ins_len]; omega) rows hn hr) ?_))
  by_cases hc : avB (insertL a x) rows = true
  · rw [if_pos hc]
    exact ev_pos hc (ev_eq (ih (x + 1) (c + 1) (by omega) (by omega) (by omega) (by omega)) (by congr 1; omega))
  · rw [if_neg hc]
    exact ev_neg hc (ev_eq (ih (x + 1) c (by omega) (by omega) (by omega) (by omega)) (by congr 1; omega))
def ccR (a : List Int) (rows : List (List Int)) : Int × Bool := if isOrd a = true ∧ a.length ≠ 7 ∧ arePats rows = true then (cnt a rows (a.length + 1) 1, true) else (0, false)
theorem spec_cc_ev (a : List Int) (rows : List (List Int)) (ha : a.length ≤ 140737488351232) (hn : rows.length ≤ 1048576) (hr : ∀ xs ∈ rows, xs.length ≤ 1048576) : Ev (fun k => spec_CountChildren.f k a rows) (ccR a rows) := by
 have key : ∀ b : Bool, (b = true → ccR a rows = (0, false)) → (b = false → isOrd a = true ∧ a.length ≠ 7 ∧ arePats rows = true) → Ev (fun k => spec_CountChildren.j0 k a rows b) (ccR a rows) := by
  intro b h1 h2
  refine ev_succ ?_
  simp only [spec_CountChildren.j0.eq_2]
  cases b with
  | true => exact ev_pos rfl (ev_now (h1 rfl).symm)
  | false =>
   obtain ⟨q1, q2, q3⟩ := h2 rfl
   have := ord_len q1
   refine ev_neg (by simp) (ev_eq (spec_cc_l a rows q1 (by omega) hn (pats_all q3).2 (a.length + 1) 1 0 (by omega) (by omega) (by omega) (by omega)) ?_)
   unfold ccR
   rw [if_pos ⟨q1, q2, q3⟩]; simp
 unfold spec_CountChildren.f
 refine ev_bind (spec_order_ev a ha) ?_
 by_cases h1 : isOrd a = true
 · refine ev_pos h1 ?_
   by_cases h2 : (a.length : Int) = 7
   · exact ev_pos h2 (key true (fun _ => by unfold ccR; rw [if_neg (fun h => h.2.1 (by omega))]) (by simp))
   · refine ev_neg h2 (ev_bind (spec_patterns_ev rows hn hr) (key _ (fun hb => ?_) (fun hb => ⟨h1, by omega, by simpa using hb⟩)))
     unfold ccR
     rw [if_neg (fun h => by rw [h.2.2] at hb; simp at hb)]
 · exact ev_neg h1 (key true (fun _ => by unfold ccR; rw [if_neg (fun h => h1 h.1)]) (by simp))
theorem impl_cc_ev (a : List Int) (rows : List (List Int)) (ha : a.length ≤ 140737488351232) (hn : rows.length ≤ 1048576) (hr : ∀ xs ∈ rows, xs.length ≤ 1048576) : Ev (fun k => impl_CountChildren.f k a rows) (ccR a rows) := by
 have key : ∀ b : Bool, (b = true → ccR a rows = (0, false)) → (b = false → isOrd a = true ∧ a.length ≠ 7 ∧ arePats rows = true) → Ev (fun k => impl_CountChildren.j0 k a rows b) (ccR a rows) := by
  intro b h1 h2
  refine ev_succ ?_
  simp only [impl_CountChildren.j0.eq_2]
  cases b with
  | true => exact ev_pos rfl (ev_now (h1 rfl).symm)
  | false =>
   obtain ⟨q1, q2, q3⟩ := h2 rfl
   have := ord_len q1
   refine ev_neg (by simp) (ev_eq (impl_cc_l a rows q1 (by omega) hn (pats_all q3).2 (a.length + 1) 1 0 (by omega) (by omega) (by omega) (by omega)) ?_)
   unfold ccR
   rw [if_pos ⟨q1, q2, q3⟩]; simp
 unfold impl_CountChildren.f
 refine ev_bind (impl_order_ev a ha) ?_
 by_cases h1 : isOrd a = true
 · refine ev_pos h1 ?_
   by_cases h2 : (a.length : Int) = 7
   · exact ev_pos h2 (key true (fun _ => by unfold ccR; rw [if_neg (fun h => h.2.1 (by omega))]) (by simp))
   · refine ev_neg h2 (ev_bind (impl_patterns_ev rows hn hr) (key _ (fun hb => ?_) (fun hb => ⟨h1, by omega, by simpa using hb⟩)))
     unfold ccR
     rw [if_neg (fun h => by rw [h.2.2] at hb; simp at hb)]
 · exact ev_neg h1 (key true (fun _ => by unfold ccR; rw [if_neg (fun h => h1 h.1)]) (by simp))
/-! ### FnExactAvoidsAll -/
def avR (a : List Int) (rows : List (List Int)) : Bool × Bool := if isOrd a = true ∧ arePats rows = true then (avB a rows, true) else (false, false)
theorem spec_av_ev (a : List Int) (rows : List (List Int)) (ha : a.length ≤ 140737488351232) (hn : rows.length ≤ 1048576) (hr : ∀ xs ∈ rows, xs.length ≤ 1048576) : Ev (fun k => spec_AvoidsAll.f k a rows) (avR a rows) := by
 unfold spec_AvoidsAll.f
 refine ev_bind (spec_order_ev a ha) ?_
 by_cases h1 : isOrd a = true
 · refine ev_pos h1 (ev_bind (spec_patterns_ev rows hn hr) ?_)
   by_cases h2 : arePats rows = true
   · exact ev_pos h2 (ev_bind (spec_avoids_ev a (ord_len h1).2 rows hn (pats_all h2).2) (ev_now (by unfold avR; rw [if_pos ⟨h1, h2⟩])))
   · exact ev_neg h2 (ev_now (by unfold avR; rw [if_neg (fun h => h2 h.2)]))
 · exact ev_neg h1 (ev_now (by unfold avR; rw [if_neg (fun h => h1 h.1)]))
theorem impl_av_ev (a : List Int) (rows : List (List Int)) (ha : a.length ≤ 140737488351232) (hn : rows.length ≤ 1048576) (hr : ∀ xs ∈ rows, xs.length ≤ 1048576) : Ev (fun k => impl_AvoidsAll.f k a rows) (avR a rows) := by
 unfold impl_AvoidsAll.f
 refine ev_bind (impl_order_ev a ha) ?_
 by_cases h1 : isOrd a = true
 · refine ev_pos h1 (ev_bind (impl_patterns_ev rows hn hr) ?_)
   by_cases h2 : arePats rows = true
   · exact ev_pos h2 (ev_bind (impl_avoids_ev a (ord_len h1).2 rows hn (pats_all h2).2) (ev_now (by unfold avR; rw [if_pos ⟨h1, h2⟩])))
   · exact ev_neg h2 (ev_now (by unfold avR; rw [if_neg (fun h => h2 h.2)]))
 · exact ev_neg h1 (ev_now (by unfold avR; rw [if_neg (fun h => h1 h.1)]))
/-! ### FnExactMostPlaces -/
def mpGo (p : List Int) : List (List Int) → List Int → Int → List Int × Int × Bool
 | [], b, m => (b, m, true)
 | c :: s, b, m => if cpG c p > m then mpGo p s c (cpG c p) else mpGo p s b m
theorem mpGo_len (p : List Int) : ∀ (rows : List (List Int)) (b : List Int) (m : Int), (∀ c ∈ rows, c.length ≤ 7) → b.length ≤ 7 → (mpGo p rows b m).1.length ≤ 7 := by
 intro rows
 induction rows with
 | nil => intro b m _ hb; exact hb
 | cons c s ih =>
  intro b m hr hb
  simp only [mpGo]
  split
  · exact ih _ _ (fun x hx => hr x (by simp [hx])) (hr c (by simp))
  · exact ih _ _ (fun x hx => hr x (by simp [hx])) hb
theorem impl_go (p : List Int) (hp : p.length ≤ 7) : ∀ (rows : List (List Int)) (b : List Int) (m : Int), (∀ c ∈ rows, c.length ≤ 7) → impl_MostPlaces.go p rows b m = some (mpGo p rows b m) := by
 intro rows
 induction rows with
 | nil => intro b m _; rfl
 | cons c s ih =>
  intro b m hr
  have h1 : impl_countPlaces.f c p = some (cpG c p) := by unfold impl_countPlaces.f; rw [if_pos ⟨hr c (by simp), hp⟩]
  simp only [impl_MostPlaces.go, h1, Option.bind_some, mpGo]
  split
  · exact ih _ _ (fun x hx => hr x (by simp [hx]))
  · exact ih _ _ (fun x hx => hr x (by simp [hx]))
theorem spec_go (p : List Int) (hp : p.length ≤ 7) (rows : List (List Int)) (hn : rows.length ≤ 5040) (hr : ∀ c ∈ rows, c.length ≤ 7) : ∀ (suf pre : List (List Int)) (b : List Int) (m : Int), rows = pre ++ suf → Ev (fun k => spec_MostPlaces.l0 k p rows b m (pre.length : Int)) (mpGo p suf b m) := by
 intro suf
 induction suf with
 | nil =>
  intro pre b m e
  have h := len_end e
  refine ev_succ ?_
  simp only [spec_MostPlaces.l0.eq_2]
  exact ev_neg (by omega) (ev_now rfl)
 | cons c suf ih =>
  intro pre b m e
  have h := len_mid e
  have hc := hr c (by rw [e]; simp)
  have hrd : rd_L2 rows (pre.length : Int) = c := by rw [e]; simp [rd_L2]
  refine ev_succ ?_
  simp only [spec_MostPlaces.l0.eq_2, hrd, mpGo]
  rw [wrap_snoc (pre := pre) (c := c) (by omega)]
  refine ev_pos (by omega) (ev_pos (by omega) (ev_bind (places_ev c p hc hp) ?_))
  rw [← cpG_eq c p hc]
  by_cases hq : cpG c p > m
  · rw [if_pos hq]; exact ev_pos hq (ih _ _ _ (snoc_mid e))
  · rw [if_neg hq]; exact ev_neg hq (ih _ _ _ (snoc_mid e))
def mpR (a : Int) (p : List Int) : List Int × Int × Bool := if (1 ≤ a ∧ a ≤ 7) ∧ isOrd p = true then mpGo p (ordersL a.toNat) [] (-1) else ([], 0, false)
theorem mpR_len (a : Int) (p : List Int) : (mpR a p).1.length ≤ 7 := by
 unfold mpR
 split
 · rename_i h
   exact mpGo_len p _ _ _ (fun c hc => by have := ordersL_mem hc; omega) (by simp)
 · simp
theorem impl_mp_ev (a : Int) (p : List Int) (hl : p.length ≤ 140737488351232) : Ev (fun k => impl_MostPlaces.f k a p) (mpR a p) := by
 unfold impl_MostPlaces.f
 refine ev_bind (isSize_ev a) ?_
 by_cases h : 1 ≤ a ∧ a ≤ 7
 · refine ev_pos (by simp; omega) (ev_bind (impl_order_ev p hl) ?_)
   by_cases h2 : isOrd p = true
   · obtain ⟨n, rfl⟩ : ∃ n : Nat, a = (n : Int) := ⟨a.toNat, by omega⟩
     refine ev_pos h2 (ev_bind (impl_orders_ev n (by omega)) (ev_const ?_))
     rw [impl_go p (ord_len h2).2 _ _ _ (fun c hc => by have := ordersL_mem hc; omega)]
     unfold mpR
     rw [if_pos ⟨h, h2⟩]
     rfl
   · exact ev_neg h2 (ev_now (by unfold mpR; rw [if_neg (fun hh => h2 hh.2)]))
 · refine ev_neg ?_ (ev_now (by unfold mpR; rw [if_neg (fun hh => h hh.1)]))
   simp only [Bool.and_eq_true, decide_eq_true_eq]; omega
theorem spec_mp_ev (a : Int) (p : List Int) (hl : p.length ≤ 140737488351232) : Ev (fun k => spec_MostPlaces.f k a p) (mpR a p) := by
 unfold spec_MostPlaces.f
 have hs : Ev (fun _ => spec_l3Size.f a) (decide (1 ≤ a) && decide (a ≤ 7)) := by
  unfold spec_l3Size.f
  exact ev_bind (in_ev a 1 7) (ev_now rfl)
 refine ev_bind hs ?_
 by_cases h : 1 ≤ a ∧ a ≤ 7
 · refine ev_pos (by simp; omega) (ev_bind (spec_order_ev p hl) (ev_succ ?_))
   simp only [spec_MostPlaces.j0.eq_2]
   by_cases h2 : isOrd p = true
   · obtain ⟨n, rfl⟩ : ∃ n : Nat, a = (n : Int) := ⟨a.toNat, by omega⟩
     have hf := fac_le (n := n) (by omega)
     have hp := fac_pos n
     have hlen := ordersL_len n
     refine ev_neg (by simp [h2]) (ev_bind (spec_orders_ev n (by omega)) (ev_pos (by omega) ?_))
     refine ev_eq (spec_go p (ord_len h2).2 (ordersL n) (by omega) (fun c hc => by have := ordersL_mem hc; omega) (ordersL n) [] _ _ rfl) ?_
     unfold mpR
     rw [if_pos ⟨h, h2⟩]
     show mpGo p (ordersL n) _ _ = mpGo p (ordersL n) _ _
     cases ho : ordersL n with
     | nil => rw [ho] at hlen; simp at hlen; omega
     | cons c s =>
      have hc : c.length ≤ 7 := by have := ordersL_mem (n := n) (c := c) (by rw [ho]; simp); omega
      have h0 : cpG c p > -1 := by rw [cpG_eq c p hc]; omega
      simp only [mpGo]
      rw [if_pos h0, if_pos h0]
   · exact ev_pos (by simp [h2]) (ev_now (by unfold mpR; rw [if_neg (fun hh => h2 hh.2)]))
 · refine ev_neg ?_ (ev_succ ?_)
   · simp only [Bool.and_eq_true, decide_eq_true_eq]; omega
   · simp only [spec_MostPlaces.j0.eq_2]
     exact ev_pos trivial (ev_now (by unfold mpR; rw [if_neg (fun hh => h hh.1)]))
/-! ### FnExactCountPlaces -/
def cplR (a b : List Int) : Int × Bool := if isOrd a = true ∧ isOrd b = true then (cpG a b, true) else (0, false)
theorem impl_cp_ev (a b : List Int) (ha : a.length ≤ 140737488351232) (hb : b.length ≤ 140737488351232) : Ev (fun k => impl_CountPlaces.f k a b) (cplR a b) := by
 unfold impl_CountPlaces.f
 refine ev_bind (impl_order_ev a ha) ?_
 by_cases h1 : isOrd a = true
 · refine ev_pos h1 (ev_bind (impl_order_ev b hb) ?_)
   by_cases h2 : isOrd b = true
   · refine ev_pos h2 (ev_bind (a := cpG a b) ?_ (ev_now (by unfold cplR; rw [if_pos ⟨h1, h2⟩])))
     unfold impl_countPlaces.f
     exact ev_pos ⟨(ord_len h1).2, (ord_len h2).2⟩ (ev_now rfl)
   · exact ev_neg h2 (ev_now (by unfold cplR; rw [if_neg (fun h => h2 h.2)]))
 · exact ev_neg h1 (ev_now (by unfold cplR; rw [if_neg (fun h => h1 h.1)]))
/-! ### what the law draws -/
theorem vcut_ok {l : List Int} (hl : byteL l) (a : Int) (h1 : 1 ≤ a) (h2 : a ≤ 2) : ∃ d, laws_vCut.f l a = some d ∧ byteL d := by
 have hlen := hl.1
 unfold laws_vCut.f
 by_cases h : a > (l.length : Int)
 · rw [if_pos h]
   simp only [Option.bind_some, List.length_nil, Nat.zero_add, List.nil_append]
   rw [if_pos (by omega), if_pos (by omega)]
   have hd : l.drop ((l.length : Int)).toNat = [] := by rw [List.drop_eq_nil_iff]; omega
   rw [hd, if_pos (by simp)]
   simp only [List.length_nil, List.nil_append]
   rw [if_pos (by omega)]
   refine ⟨_, rfl, ⟨by simp, fun x hx => ?_⟩⟩
   simp at hx; omega
 · rw [if_neg h]
   simp only [Option.bind_some, List.length_nil, Nat.zero_add, List.nil_append]
   have hdl : (l.drop a.toNat).length + 1 ≤ 65536 := by rw [List.length_drop]; omega
   rw [if_pos (by omega), if_pos (by omega), if_pos (by omega), if_pos (by omega)]
   refine ⟨_, rfl, ⟨by rw [List.length_append]; simp at hdl ⊢; omega, fun x hx => ?_⟩⟩
   rcases List.mem_append.1 hx with hx | hx
   · exact hl.2 x (List.mem_of_mem_drop hx)
   · simp at hx; omega
theorem cutpick {l : List Int} (hl : byteL l) (s1 s2 b d n : Int) (xs : List Int) (h0 : 0 ≤ s1) (h1 : s1 ≤ 700000) (hb : 1 ≤ b) (hd : 1 ≤ d) (hn : b + 23 / d ≤ (xs.length : Int)) (hx : xs.length ≤ 200) :
 ∃ p t1 t2 y u1 u2, spec_l1Cur_pick.f l s1 s2 24 = some (p, t1, t2) ∧ 0 ≤ wrap64 (b + wrap64 (Int.tdiv p d)) ∧ wrap64 (b + wrap64 (Int.tdiv p d)) ≤ (xs.length : Int) ∧ spec_l1Cur_among.f l t1 t2 (xs.take (wrap64 (b + wrap64 (Int.tdiv p d))).toNat) = some (y, u1, u2) ∧ y ∈ xs ∧ 0 ≤ u1 ∧ u1 ≤ s1 + 4 := by
 obtain ⟨p, t1, t2, hp, hp0, hp1, hs, hs'⟩ := pick_any hl s1 s2 24 h0 (by omega) (by omega) (by omega)
 have e : Int.tdiv p d = p / d := Int.tdiv_eq_ediv_of_nonneg hp0
 have hq0 : 0 ≤ p / d := Int.ediv_nonneg hp0 (by omega)
 have hq1 : p / d ≤ 23 / d := Int.ediv_le_ediv (by omega) (by omega)
 have hw : wrap64 (b + wrap64 (Int.tdiv p d)) = b + p / d := by
  rw [e, wrap_of (x := p / d) (by omega) (by omega), wrap_of (by omega) (by omega)]
 obtain ⟨y, u1, u2, hy, hm, hu, hu'⟩ := among_ok hl t1 t2 (xs.take (b + p / d).toNat) (by omega) (by omega) (by rw [List.length_take]; omega) (by rw [List.length_take]; omega)
 refine ⟨p, t1, t2, y, u1, u2, hp, by omega, by omega, by rw [hw]; exact hy, List.mem_of_mem_take hm, by omega, by omega⟩
theorem size3_ok {l : List Int} (hl : byteL l) (s1 s2 : Int) (h0 : 0 ≤ s1) (h1 : s1 ≤ 600000) : ∃ y u1 u2, spec_l1Cur_size3.f l s1 s2 = some (y, u1, u2) ∧ 0 ≤ u1 ∧ u1 ≤ s1 + 4 := by
 obtain ⟨p, t1, t2, y, u1, u2, hp, w0, w1, hy, hm, hu0, hu1⟩ := cutpick hl s1 s2 6 8 9 [4, 5, 3, 6, 2, 1, 0, 8, 7] h0 (by omega) (by omega) (by omega) (by decide) (by decide)
 refine ⟨y, u1, u2, ?_, hu0, hu1⟩
 unfold spec_l1Cur_size3.f
 simp only [Option.bind_some, hp]
 rw [if_pos w0, if_pos w1, hy]; rfl
def pat11 : List (List Int) := [[2, 3, 1], [1, 2, 3], [3, 2, 1], [1, 3, 2], [2, 1], [1, 2], [2, 1, 3], [3, 1, 2], [2, 4, 1, 3], [1, 3, 2, 4], [1]]
theorem pattern3_ok {l : List Int} (hl : byteL l) (s1 s2 : Int) (h0 : 0 ≤ s1) (h1 : s1 ≤ 600000) : ∃ v, Ev (fun k => spec_l1Cur_pattern3.f k l s1 s2) v ∧ v.1.length ≤ 8 ∧ 0 ≤ v.2.1 ∧ v.2.1 ≤ s1 + 30 := by
 obtain ⟨b, s3, s4, hb, hs, hs'⟩ := one_any hl s1 s2 5 h0 (by omega) (by omega) (by omega)
 cases b with
 | true =>
  obtain ⟨v, hv, hv8, hv0, hv1⟩ := order_ok hl s3 s4 (by omega) (by omega)
  refine ⟨v, ?_, hv8, hv0, by omega⟩
  unfold spec_l1Cur_pattern3.f
  refine ev_let ?_
  rw [hb]
  exact ev_let (ev_pos rfl (ev_bind hv (ev_now rfl)))
 | false =>
  obtain ⟨p, s5, s6, hp, hp0, hp1, hu, hu'⟩ := pick_any hl s3 s4 11 (by omega) (by omega) (by omega) (by omega)
  have hi : p.toNat < pat11.length := by simp [pat11]; omega
  have hx : (rd_L2 pat11 p).length ≤ 8 := by
   have e : rd_L2 pat11 p = pat11[p.toNat] := by simp [rd_L2, List.getD_eq_getElem?_getD, List.getElem?_eq_getElem hi]
   rw [e]
   have : ∀ x ∈ pat11, x.length ≤ 8 := by decide
   exact this _ (List.getElem_mem hi)
  have how := own_ok (rd_L2 pat11 p) (by omega)
  refine ⟨(rd_L2 pat11 p, s5, s6), ?_, hx, by simp only; omega, by simp only; omega⟩
  unfold spec_l1Cur_pattern3.f
  refine ev_let ?_
  rw [hb]
  refine ev_let (ev_neg (by simp) ?_)
  have hp' : spec_l1Cur_pick.f l s3 s4 ((pat11.length : Nat) : Int) = some (p, s5, s6) := hp
  show Ev (fun k => (spec_l1Cur_pick.f l s3 s4 ((pat11.length : Nat) : Int)).bind _) _
  rw [hp']
  refine ev_let (ev_pos hp0 (ev_pos hp1 ?_))
  show Ev (fun k => (spec_l1Own.f (rd_L2 pat11 p)).bind _) _
  rw [how]
  exact ev_let (ev_now rfl)
theorem patterns3_l {l : List Int} (hl : byteL l) : ∀ (d : Nat) (x : List (List Int)) (s1 s2 : Int), x.length + d ≤ 10 → (∀ r ∈ x, r.length ≤ 8) → 0 ≤ s1 → s1 + 40 * d ≤ 500000 →
 ∃ v, Ev (fun k => spec_l1Cur_patterns3.l0 k x (d : Int) l s1 s2) v ∧ v.1.length ≤ 10 ∧ (∀ r ∈ v.1, r.length ≤ 8) := by
 intro d
 induction d with
 | zero =>
  intro x s1 s2 hx hr h0 h1
  refine ⟨(x, s1, s2), ev_succ ?_, by simp only; omega, hr⟩
  simp only [spec_l1Cur_patterns3.l0.eq_2]
  exact ev_neg (by omega) (ev_now rfl)
 | succ d ih =>
  intro x s1 s2 hx hr h0 h1
  obtain ⟨v, hv, hv8, hv0, hv1⟩ := pattern3_ok hl s1 s2 h0 (by omega)
  obtain ⟨z, hz, hz1, hz2⟩ := ih (x ++ [v.1]) v.2.1 v.2.2 (by simp; omega) (fun r hm => by
   rcases List.mem_append.1 hm with hm | hm
   · exact hr r hm
   · rw [List.mem_singleton.1 hm]; exact hv8) hv0 (by omega)
  refine ⟨z, ev_succ ?_, hz1, hz2⟩
  simp only [spec_l1Cur_patterns3.l0.eq_2]
  refine ev_pos (by omega) (ev_bind hv (ev_pos (by omega) ?_))
  rw [wrap_of (by omega) (by omega), show ((d + 1 : Nat) : Int) - 1 = (d : Int) by omega]
  exact hz
theorem patterns3_ok {l : List Int} (hl : byteL l) (s1 s2 : Int) (h0 : 0 ≤ s1) (h1 : s1 ≤ 400000) : ∃ v, Ev (fun k => spec_l1Cur_patterns3.f k l s1 s2) v ∧ v.1.length ≤ 10 ∧ (∀ r ∈ v.1, r.length ≤ 8) := by
 obtain ⟨p, t1, t2, y, u1, u2, hp, w0, w1, hy, hm, hu0, hu1⟩ := cutpick hl s1 s2 6 23 7 [1, 2, 1, 3, 0, 4, 5] h0 (by omega) (by omega) (by omega) (by decide) (by decide)
 have hr : 0 ≤ y ∧ y ≤ 5 := by
  simp only [List.mem_cons, List.not_mem_nil, or_false] at hm
  omega
 obtain ⟨n, rfl⟩ : ∃ n : Nat, y = (n : Int) := ⟨y.toNat, by omega⟩
 obtain ⟨v, hv, hv1, hv2⟩ := patterns3_l hl n [] u1 u2 (by simp; omega) (by simp) hu0 (by omega)
 refine ⟨v, ?_, hv1, hv2⟩
 unfold spec_l1Cur_patterns3.f
 refine ev_let ?_
 rw [hp]
 refine ev_let (ev_pos w0 (ev_pos w1 ?_))
 rw [hy]
 exact ev_let hv
theorem drawCA_ok {l : List Int} (hl : byteL l) : ∃ n p, Ev (fun k => spec_DrawCountAvoiding.f k l) (n, p) ∧ p.length ≤ 10 ∧ (∀ r ∈ p, r.length ≤ 8) := by
 obtain ⟨y, u1, u2, hy, hu0, hu1⟩ := size3_ok hl 0 0 (by omega) (by omega)
 obtain ⟨v, hv, hv1, hv2⟩ := patterns3_ok hl u1 u2 hu0 (by omega)
 refine ⟨y, v.1, ?_, hv1, hv2⟩
 unfold spec_DrawCountAvoiding.f
 rw [hy]
 exact ev_let (ev_bind hv (ev_now rfl))
theorem drawCC_ok {l : List Int} (hl : byteL l) : ∃ o p, Ev (fun k => spec_DrawCountChildren.f k l) (o, p) ∧ o.length ≤ 8 ∧ p.length ≤ 10 ∧ (∀ r ∈ p, r.length ≤ 8) := by
 obtain ⟨o, ho, ho8, ho0, ho1⟩ := order_ok hl 0 0 (by omega) (by omega)
 obtain ⟨v, hv, hv1, hv2⟩ := patterns3_ok hl o.2.1 o.2.2 ho0 (by omega)
 refine ⟨o.1, v.1, ?_, ho8, hv1, hv2⟩
 unfold spec_DrawCountChildren.f spec_DrawAvoidsAll.f
 exact ev_bind (ev_bind ho (ev_bind hv (ev_now rfl))) (ev_now rfl)
theorem drawIL_ok {l : List Int} (hl : byteL l) : ∃ u k, Ev (fun i => spec_DrawInsertLast.f i l) (u, k) ∧ u.length ≤ 8 := by
 obtain ⟨o, ho, ho8, ho0, ho1⟩ := order_ok hl 0 0 (by omega) (by omega)
 have hw : wrap64 ((o.1.length : Int) + 1) = (o.1.length : Int) + 1 := wrap_of (by omega) (by omega)
 obtain ⟨p, p1, p2, hp, _, _, hp2, hp3⟩ := pick_any hl o.2.1 o.2.2 ((o.1.length : Int) + 1) ho0 (by omega) (by omega) (by omega)
 obtain ⟨q, q1, q2, hq, _, _, hq2, hq3⟩ := pick_any hl p1 p2 24 (by omega) (by omega) (by omega) (by omega)
 obtain ⟨r, r1, r2, hr, _, _, hr2, hr3⟩ := pick_any hl q1 q2 24 (by omega) (by omega) (by omega) (by omega)
 refine ⟨o.1, wrap64 ((wrap64 ((wrap64 (1 + p)) + (wrap64 (Int.tdiv q 23)))) - (wrap64 (Int.tdiv r 23))), ?_, ho8⟩
 unfold spec_DrawInsertLast.f
 refine ev_bind ho ?_
 rw [hw, hp]
 refine ev_let ?_
 rw [hq]
 refine ev_let ?_
 rw [hr]
 exact ev_let (ev_now rfl)
theorem drawMP_ok {l : List Int} (hl : byteL l) : ∃ m p, Ev (fun i => spec_DrawMostPlaces.f i l) (m, p) ∧ p.length ≤ 8 := by
 obtain ⟨p, t1, t2, y, u1, u2, hp, w0, w1, hy, hm, hu0, hu1⟩ := cutpick hl 0 0 5 11 7 [4, 3, 5, 2, 1, 0, 8] (by omega) (by omega) (by omega) (by omega) (by decide) (by decide)
 obtain ⟨v, hv, hv8, hv0, hv1⟩ := pattern3_ok hl u1 u2 hu0 (by omega)
 refine ⟨y, v.1, ?_, hv8⟩
 unfold spec_DrawMostPlaces.f
 refine ev_let ?_
 rw [hp]
 refine ev_let (ev_pos w0 (ev_pos w1 ?_))
 rw [hy]
 exact ev_let (ev_bind hv (ev_now rfl))
theorem vInts_l (a : List Int) (ha : a.length ≤ 1048576) : ∀ (suf pre : List Int), a = pre ++ suf → Ev (fun k => laws_vInts.l0 k a a (pre.length : Int)) true := by
 intro suf
 induction suf with
 | nil =>
  intro pre e
  have h := len_end e
  refine ev_succ ?_
  simp only [laws_vInts.l0.eq_2]
  exact ev_neg (by omega) (ev_now rfl)
 | cons c suf ih =>
  intro pre e
  have h := len_mid e
  refine ev_succ ?_
  simp only [laws_vInts.l0.eq_2]
  rw [wrap_snoc (pre := pre) (c := c) (by omega)]
  exact ev_pos (by omega) (ev_pos (by omega) (ev_pos (by omega) (ev_pos trivial (ih _ (snoc_mid e)))))
theorem vInts_ev (a : List Int) (ha : a.length ≤ 1048576) : Ev (fun k => laws_vInts.f k a a) true := by
 unfold laws_vInts.f
 exact ev_pos rfl (vInts_l a ha a [] rfl)
/-! ### what the law asks -/
theorem isorder_ev (a : List Int) (ha : a.length ≤ 140737488351232) : Ev (fun k => impl_IsOrder.f k a) (isOrd a) := by
 unfold impl_IsOrder.f
 first
  | exact ev_bind (impl_order_ev a ha) (ev_now rfl)
  | exact impl_order_ev a ha
theorem shape_up {u : List Int} (k : Int) (h : isOrd u = true) : shapeL (u.map (upK k)) = u := by
 refine (shape_of_alike (a := u.map (upK k)) (b := u) ⟨by simp, fun i j hi hj => ?_⟩).trans (shape_ord h)
 rw [List.length_map] at hi hj
 have e : ∀ i, i < u.length → (u.map (upK k)).getD i 0 = upK k (u.getD i 0) := fun i hi => by
  simp [List.getD_eq_getElem?_getD, List.getElem?_map, List.getElem?_eq_getElem hi]
 rw [e i hi, e j hj]
 exact upK_lt k _ _
theorem insert_ord {u : List Int} {k : Int} (h : isOrd u = true) (h7 : u.length ≠ 7) (h1 : 1 ≤ k) (h2 : k ≤ (u.length : Int) + 1) : isOrd (insertL u k) = true := by
 have hl := ord_len h
 exact ord_of_perm (n := u.length + 1) (by omega) (by omega) (insert_perm (ord_perm h).symm h1 h2)
theorem insert_made {u : List Int} {k : Int} (h : isOrd u = true) (h7 : u.length ≠ 7) : (insertL u k).length = u.length + 1 ∧ shapeR ((insertL u k).take ((insertL u k).length - 1)) = (u, true) ∧ (insertL u k).getD ((insertL u k).length - 1) 0 = k := by
 have hl := ord_len h
 have e := insertL_eq u k
 have h1 : (insertL u k).length = u.length + 1 := by rw [e]; simp
 refine ⟨h1, ?_, ?_⟩
 · have e2 : (insertL u k).take ((insertL u k).length - 1) = u.map (upK k) := by
    rw [h1, e, Nat.add_sub_cancel, List.take_left' (by simp)]
   rw [e2]
   unfold shapeR
   rw [if_pos, shape_up k h]
   rw [isList_iff]
   refine ⟨⟨by simp; omega, by simp; omega⟩, ?_⟩
   rw [List.Nodup, List.pairwise_map]
   exact (ord_nodup h).imp (fun {a b} hab hh => hab (by
    by_cases h3 : a < b
    · have := (upK_lt k a b).2 h3; omega
    · by_cases h4 : b < a
      · have := (upK_lt k b a).2 h4; omega
      · omega))
 · rw [h1, Nat.add_sub_cancel, e]
   simp [List.getD_eq_getElem?_getD]
def smG (a : List Int) (rows : List (List Int)) : Nat → Int
 | 0 => 0
 | i + 1 => smG a rows i + (if avB (insertL a ((i : Int) + 1)) rows = true then 1 else 0)
theorem smG_bound (a : List Int) (rows : List (List Int)) : ∀ i, 0 ≤ smG a rows i ∧ smG a rows i ≤ i := by
 intro i
 induction i with
 | zero => simp [smG]
 | succ i ih => simp only [smG]; split <;> omega
theorem smG_cnt (a : List Int) (rows : List (List Int)) : ∀ d i, smG a rows (i + d) = smG a rows i + cnt a rows d ((i : Int) + 1) := by
 intro d
 induction d with
 | zero => intro i; simp [cnt]
 | succ d ih =>
  intro i
  have := ih (i + 1)
  rw [show i + (d + 1) = i + 1 + d by omega, this]
  simp only [smG, cnt]
  rw [show ((i + 1 : Nat) : Int) + 1 = (i : Int) + 1 + 1 by omega]
  omega
theorem mpGo_in (p : List Int) : ∀ (rows : List (List Int)) (b : List Int) (m : Int), (∀ c ∈ rows, c.length ≤ 7) → (mpGo p rows b m).2.2 = true ∧ ((mpGo p rows b m = (b, m, true) ∧ (rows = [] ∨ 0 ≤ m)) ∨ ((mpGo p rows b m).1 ∈ rows ∧ (mpGo p rows b m).2.1 = cpG (mpGo p rows b m).1 p)) := by
 intro rows
 induction rows with
 | nil => intro b m _; exact ⟨rfl, .inl ⟨rfl, .inl rfl⟩⟩
 | cons c s ih =>
  intro b m hr
  have hc : 0 ≤ cpG c p := by rw [cpG_eq c p (hr c (by simp))]; omega
  simp only [mpGo]
  split
  · obtain ⟨h1, h2⟩ := ih c (cpG c p) (fun x hx => hr x (by simp [hx]))
    refine ⟨h1, .inr ?_⟩
    rcases h2 with ⟨h2, _⟩ | ⟨h2, h3⟩
    · rw [h2]; exact ⟨by simp, rfl⟩
    · exact ⟨by simp [h2], h3⟩
  · rename_i hgt
    obtain ⟨h1, h2⟩ := ih b m (fun x hx => hr x (by simp [hx]))
    refine ⟨h1, ?_⟩
    rcases h2 with ⟨h2, h3⟩ | ⟨h2, h3⟩
    · exact .inl ⟨h2, .inr (by omega)⟩
    · exact .inr ⟨by simp [h2], h3⟩
theorem mp_true {a : Int} {p : List Int} (h : (mpR a p).2.2 = true) : isOrd p = true ∧ isOrd (mpR a p).1 = true ∧ ((mpR a p).1.length : Int) = a ∧ (mpR a p).2.1 = cpG (mpR a p).1 p := by
 by_cases hc : (1 ≤ a ∧ a ≤ 7) ∧ isOrd p = true
 · have e : mpR a p = mpGo p (ordersL a.toNat) [] (-1) := if_pos hc
   have hf := fac_pos a.toNat
   have hlen := ordersL_len a.toNat
   obtain ⟨_, h2⟩ := mpGo_in p (ordersL a.toNat) [] (-1) (fun c hc => by have := ordersL_mem hc; omega)
   rw [← e] at h2
   rcases h2 with ⟨_, h3 | h3⟩ | ⟨h3, h4⟩
   · rw [h3] at hlen; simp at hlen; omega
   · omega
   · have := ordersL_mem h3
     exact ⟨hc.2, ordersL_ord (by omega) (by omega) h3, by omega, h4⟩
 · have e : mpR a p = ([], 0, false) := if_neg hc
   rw [e] at h; cases h
theorem first_ok {a : Int} {rows : List (List Int)} : (faR a rows).2 = ((caR a rows).2 && decide ((caR a rows).1 > 0)) ∧ ((faR a rows).2 = true → avR (faR a rows).1 rows = (true, true) ∧ ((faR a rows).1.length : Int) = a) := by
 by_cases hc : (1 ≤ a ∧ a ≤ 7) ∧ arePats rows = true
 · have e1 : faR a rows = (match (ordersL a.toNat).filter (avV rows) with | [] => ([], false) | c :: _ => (c, true)) := if_pos hc
   have e2 : caR a rows = (((avG rows a.toNat).length : Int), true) := if_pos hc
   have hp1 : ∀ p ∈ rows, 1 ≤ p.length := fun p hp => (ord_len ((pats_all hc.2).2 p hp)).1
   have hpm := (av_perm rows hp1 (n := a.toNat) (by omega) (by omega)).length_eq
   rw [e1, e2]
   cases hL : (ordersL a.toNat).filter (avV rows) with
   | nil =>
    rw [hL] at hpm
    simp only [List.length_nil] at hpm
    refine ⟨?_, fun h => by cases h⟩
    simp [← hpm]
   | cons c t =>
    rw [hL] at hpm
    simp only [List.length_cons] at hpm
    refine ⟨?_, fun _ => ?_⟩
    · simp only [Bool.true_and]
      symm
      exact decide_eq_true (by omega)
    · have hm : c ∈ (ordersL a.toNat).filter (avV rows) := by rw [hL]; simp
      obtain ⟨h1, h2⟩ := List.mem_filter.1 hm
      have hlen := ordersL_mem h1
      refine ⟨?_, by simp only; omega⟩
      unfold avR
      rw [if_pos ⟨ordersL_ord (by omega) (by omega) h1, hc.2⟩, avB_eq, h2]
 · have e1 : faR a rows = ([], false) := if_neg hc
   have e2 : caR a rows = (0, false) := if_neg hc
   rw [e1, e2]
   exact ⟨rfl, fun h => by cases h⟩
theorem FnAvoiding : laws_FnAvoiding.Pure := by
 intro l hm ha hw
 by_cases hbig : (l.length : Int) > 65536
 · exact .inl (by unfold laws_vBig.f; rw [decide_eq_true hbig])
 refine .inr ⟨by unfold laws_vBig.f; rw [decide_eq_false hbig], ?_⟩
 have hl : byteL l := ⟨by omega, fun x hx => by have := hw x hx; simp [Lit.wf] at this; exact ⟨this.1, this.2⟩⟩
 obtain ⟨d1, hd1, hb1⟩ := vcut_ok hl 1 (by omega) (by omega)
 obtain ⟨d2, hd2, hb2⟩ := vcut_ok hl 2 (by omega) (by omega)
 obtain ⟨n, pats, hca, hp1, hp2⟩ := drawCA_ok hl
 obtain ⟨o, lst, hcc, ho8, hl1, hl2⟩ := drawCC_ok hb1
 obtain ⟨u, k, hil, hu8⟩ := drawIL_ok hb2
 obtain ⟨m, pat, hmp, hpt8⟩ := drawMP_ok hl
 have hpr : ∀ xs ∈ pats, xs.length ≤ 1048576 := fun xs hx => by have := hp2 xs hx; omega
 have hlr : ∀ xs ∈ lst, xs.length ≤ 1048576 := fun xs hx => by have := hl2 xs hx; omega
 have hfa := faR_len n pats
 have hmpl := mpR_len m pat
 have hinl : (insertR u k).1.length ≤ 1048576 := by
  unfold insertR
  split
  · rename_i h; have := ord_len h.1; simp [insertL]; omega
  · simp
 obtain ⟨hf1, hf2⟩ := first_ok (a := n) (rows := pats)
 have q1 : ccR o lst = ((ccR o lst).1, (ccR o lst).2) := rfl
 refine ⟨(faR n pats).1, d1, o, d2, u, (insertR u k).1, pat, (mpR m pat).1, pats, lst, fun i => insertL o ((i : Int) + 1), fun i => avB (insertL o ((i : Int) + 1)) lst, smG o lst, n, (caR n pats).1, (ccR o lst).1, k, m, (mpR m pat).2.1, (caR n pats).2, (faR n pats).2, (ccR o lst).2, (avR o lst).1, (avR o lst).2, (insertR u k).2, (mpR m pat).2.2, ?_⟩
 refine ⟨?e1, hca, impl_ca_ev n pats (by omega) hpr, spec_ca_ev n pats (by omega) hpr, impl_fa_ev n pats (by omega) hpr, spec_fa_ev n pats (by omega) hpr, hd1, hcc, impl_cc_ev o lst (by omega) (by omega) hlr, spec_cc_ev o lst (by omega) (by omega) hlr, impl_av_ev o lst (by omega) (by omega) hlr, spec_av_ev o lst (by omega) (by omega) hlr, hd2, hil, impl_insert_ev u k (by omega), spec_insert_ev u k (by omega), hmp, impl_mp_ev m pat (by omega), spec_mp_ev m pat (by omega), vInts_ev _ hfa, vInts_ev _ hinl, vInts_ev _ (by omega), hf1, ?hto, ?hfine, ?htwo, ?hthere, ?hthree⟩
 case e1 => unfold laws_vBig.f; rw [decide_eq_false hbig]
 case hto =>
  intro h
  by_cases hc : isOrd o = true ∧ o.length ≠ 7 ∧ arePats lst = true
  · unfold avR; rw [if_pos ⟨hc.1, hc.2.2⟩]
  · have e : ccR o lst = (0, false) := if_neg hc
    rw [e] at h; cases h
 case hfine =>
  intro h
  obtain ⟨g1, g2⟩ := hf2 h
  have := impl_av_ev (faR n pats).1 pats (by omega) (by omega) hpr
  rw [g1] at this
  exact ⟨this, g2⟩
 case htwo =>
  intro h
  by_cases hc : isOrd u = true ∧ u.length ≠ 7 ∧ 1 ≤ k ∧ k ≤ (u.length : Int) + 1
  · have e : insertR u k = (insertL u k, true) := if_pos hc
    rw [e]
    obtain ⟨g1, g2, g3⟩ := insert_made (k := k) hc.1 hc.2.1
    have hs := impl_shapeof_ev ((insertL u k).take ((insertL u k).length - 1)) (by rw [List.length_take]; omega)
    rw [g2] at hs
    have ho := isorder_ev (insertL u k) (by omega)
    rw [insert_ord hc.1 hc.2.1 hc.2.2.1 hc.2.2.2] at ho
    exact ⟨hs, vInts_ev u (by omega), by simp only; omega, by simp only; omega, g3, ho⟩
  · have e : insertR u k = ([], false) := if_neg hc
    rw [e] at h; cases h
 case hthere =>
  intro h
  by_cases hc : isOrd o = true ∧ o.length ≠ 7 ∧ arePats lst = true
  · have e : ccR o lst = (cnt o lst (o.length + 1) 1, true) := if_pos hc
    have hol := ord_len hc.1
    refine ⟨fun i hi => ?_, rfl, ?_, by omega⟩
    · have hio := insert_ord (k := (i : Int) + 1) hc.1 hc.2.1 (by omega) (by omega)
      have hI := impl_insert_ev o ((i : Int) + 1) (by omega)
      have e2 : insertR o ((i : Int) + 1) = (insertL o ((i : Int) + 1), true) := if_pos ⟨hc.1, hc.2.1, by omega, by omega⟩
      rw [e2] at hI
      have hA := impl_av_ev (insertL o ((i : Int) + 1)) lst (by rw [(insert_made (k := (i : Int) + 1) hc.1 hc.2.1).1]; omega) (by omega) hlr
      have e3 : avR (insertL o ((i : Int) + 1)) lst = (avB (insertL o ((i : Int) + 1)) lst, true) := if_pos ⟨hio, hc.2.2⟩
      rw [e3] at hA
      have hb := smG_bound o lst i
      refine ⟨hI, hA, fun hv => ?_, rfl, hb.1, by omega⟩
      have e4 : avR o lst = (avB o lst, true) := if_pos ⟨hc.1, hc.2.2⟩
      rw [e4]
      rw [avB_eq] at hv ⊢
      exact av_insert lst o _ hv
    · have := smG_cnt o lst (o.length + 1) 0
      rw [Nat.zero_add] at this
      rw [this, e]
      simp [smG]
  · have e : ccR o lst = (0, false) := if_neg hc
    rw [e] at h; cases h
 case hthree =>
  intro h
  obtain ⟨g1, g2, g3, g4⟩ := mp_true h
  have := impl_cp_ev (mpR m pat).1 pat (by omega) (by omega)
  have e : cplR (mpR m pat).1 pat = (cpG (mpR m pat).1 pat, true) := if_pos ⟨g2, g1⟩
  rw [e] at this
  rw [g4]
  exact ⟨this, g3⟩
end Go.Proofs.Ytlkddcabjcejdaa.Pure
