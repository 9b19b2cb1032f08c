/- The pure statement of FnExactFewestQueues: program and reference put each number behind the same queue. No condition. -/
import Derived.Test.YtlkddcabjcejdaaMFnExactFewestQueuesx4
import Derived.Test.YtlkddcabjcejdaaBase
import Derived.Test.YtlkddcabjcejdaaBaseP
import Derived.Test.YtlkddcabjcejdaaBaseF
namespace Go.Proofs.Ytlkddcabjcejdaa.Pure
open Go Go.RowKit Go.Proofs.Ytlkddcabjcejdaa.MFnExactFewestQueues Go.Proofs.YtlkddcabjcejdaaW.PrintWords Go.Proofs.Ytlkddcabjcejdaa.Base
set_option linter.unusedVariables false
set_option linter.unusedSimpArgs false
/-! ### laws.toIntS, laws.eqIntS -/
theorem toInt_l (l : List Int) (hl : l.length * 8 ≤ 140737488351232) : ∀ (suf pre : List Int), l = pre ++ suf → Ev (fun k => laws_toIntS.l0 k l (pre ++ List.replicate suf.length 0) (pre.length : Int)) l := by
  intro suf
  induction suf with
  | nil =>
    intro pre e
    have h := len_end e
    refine ev_succ ?_
    simp only [laws_toIntS.l0.eq_2]
    refine ev_neg (by omega) ?_
    exact ev_now (by rw [e]; simp)
  | cons c suf ih =>
    intro pre e
    have h := len_mid e
    refine ev_succ ?_
    simp only [laws_toIntS.l0.eq_2, rd_mid' e]
    refine ev_pos (by omega) (ev_pos (by omega) (ev_pos (by simp; omega) ?_))
    rw [wrap_snoc (pre := pre) (c := c) (by omega)]
    have e2 : (pre ++ List.replicate (c :: suf).length 0).set ((pre.length : Int)).toNat c = (pre ++ [c]) ++ List.replicate suf.length 0 := by
      simp [List.replicate_succ]
    rw [e2]
    exact ih _ (snoc_mid e)
theorem toInt_ev (l : List Int) (hl : l.length * 8 ≤ 140737488351232) : Ev (fun k => laws_toIntS.f k l) l := by
  unfold laws_toIntS.f
  refine ev_pos (by omega) (ev_pos (by omega) ?_)
  have := toInt_l l hl l [] rfl
  simpa using this

theorem eqInt_l (a b : List Int) (hl : a.length * 8 ≤ 140737488351232) : ∀ (s t pre q : List Int), a = pre ++ s → b = q ++ t → pre.length = q.length → s.length = t.length → Ev (fun k => laws_eqIntS.l0 k a b (pre.length : Int)) (decide (s = t)) := by
  intro s
  induction s with
  | nil =>
    intro t pre q e e' h1 h2
    have h := len_end e
    obtain rfl : t = [] := by cases t with
      | nil => rfl
      | cons _ _ => simp at h2
    refine ev_succ ?_
    simp only [laws_eqIntS.l0.eq_2]
    refine ev_neg (by omega) ?_
    exact ev_now (by simp)
  | cons c s ih =>
    intro t pre q e e' h1 h2
    cases t with
    | nil => simp at h2
    | cons d t =>
    have h := len_mid e
    have h' := len_mid e'
    refine ev_succ ?_
    have r1 := rd_mid' e
    have r2 := rd_mid' e'
    rw [← h1] at r2
    simp only [laws_eqIntS.l0.eq_2, r1, r2]
    refine ev_pos (by omega) (ev_pos (by omega) (ev_pos (by omega) ?_))
    by_cases hc : c = d
    · refine ev_pos hc ?_
      rw [wrap_snoc (pre := pre) (c := c) (by omega)]
      refine ev_eq (ih t (pre ++ [c]) (q ++ [d]) (snoc_mid e) (snoc_mid e') (by simp [h1]) (by simpa using h2)) ?_
      simp [hc]
    · refine ev_neg hc (ev_now ?_)
      simp [hc]
theorem eqInt_ev (a b : List Int) (hl : a.length * 8 ≤ 140737488351232) : Ev (fun k => laws_eqIntS.f k a b) (decide (a = b)) := by
  unfold laws_eqIntS.f
  by_cases h : a.length = b.length
  · refine ev_pos (by omega) ?_
    exact eqInt_l a b hl a b [] [] rfl rfl rfl h
  · refine ev_neg (by omega) (ev_now ?_)
    symm
    exact decide_eq_false (fun e => h (by rw [e]))

/-! ### Is it an order? -/
theorem in_ev (a b c : Int) : Ev (fun _ => spec_l1In.f a b c) (decide (b ≤ a) && decide (a ≤ c)) := by
  unfold spec_l1In.f
  by_cases h : a ≥ b
  · refine ev_pos h (ev_now ?_)
    have : decide (b ≤ a) = true := decide_eq_true h
    rw [this]; rfl
  · refine ev_neg h (ev_now ?_)
    have : decide (b ≤ a) = false := decide_eq_false (by omega)
    rw [this]; rfl

theorem has_l (l : List Int) (x : Int) (hl : l.length ≤ 140737488351232) : ∀ (suf pre : List Int), l = pre ++ suf → Ev (fun k => spec_l1Has.l0 k l x (pre.length : Int)) (decide (x ∈ suf)) := by
  intro suf
  induction suf with
  | nil =>
    intro pre e
    have h := len_end e
    refine ev_succ ?_
    simp only [spec_l1Has.l0.eq_2]
    refine ev_neg (by omega) ?_
    exact ev_now (by simp)
  | cons c suf ih =>
    intro pre e
    have h := len_mid e
    refine ev_succ ?_
    simp only [spec_l1Has.l0.eq_2, rd_mid' e]
    refine ev_pos (by omega) (ev_pos (by omega) ?_)
    by_cases hc : c = x
    · exact ev_pos hc (ev_now (by simp [hc]))
    · refine ev_neg hc ?_
      rw [wrap_snoc (pre := pre) (c := c) (by omega)]
      refine ev_eq (ih _ (snoc_mid e)) ?_
      have : x ≠ c := fun h => hc h.symm
      simp [this]
theorem has_ev (l : List Int) (x : Int) (hl : l.length ≤ 140737488351232) : Ev (fun k => spec_l1Has.f k l x) (decide (x ∈ l)) := by
  unfold spec_l1Has.f
  exact has_l l x hl l [] rfl
theorem idx_l (l : List Int) (x : Int) (hl : l.length ≤ 140737488351232) : ∀ (suf pre : List Int), l = pre ++ suf → Ev (fun k => slices_Index_int_int.l0 k l x (l.length : Int) (pre.length : Int)) (if x ∈ suf then ((pre.length + suf.idxOf x : Nat) : Int) else -1) := by
  intro suf
  induction suf with
  | nil =>
    intro pre e
    have h := len_end e
    refine ev_succ ?_
    simp only [slices_Index_int_int.l0.eq_2]
    refine ev_neg (by omega) ?_
    exact ev_now (by simp)
  | cons c suf ih =>
    intro pre e
    have h := len_mid e
    refine ev_succ ?_
    simp only [slices_Index_int_int.l0.eq_2, rd_mid' e]
    refine ev_pos (by omega) (ev_pos (by omega) (ev_pos (by omega) ?_))
    by_cases hc : x = c
    · exact ev_pos hc (ev_now (by simp [hc]))
    · refine ev_neg hc ?_
      rw [wrap_snoc (pre := pre) (c := c) (by omega)]
      refine ev_eq (ih _ (snoc_mid e)) ?_
      have hc' : ¬ c = x := fun h => hc h.symm
      have hb : (c == x) = false := by simpa using hc'
      simp only [List.mem_cons, hc, false_or, List.idxOf_cons, hb, cond_false]
      by_cases hm : x ∈ suf
      · rw [if_pos hm, if_pos hm]; simp; omega
      · rw [if_neg hm, if_neg hm]
theorem idx_ev (l : List Int) (x : Int) (hl : l.length ≤ 140737488351232) : Ev (fun k => slices_Index_int_int.f k l x) (if x ∈ l then ((l.idxOf x : Nat) : Int) else -1) := by
  unfold slices_Index_int_int.f
  simpa using idx_l l x hl l [] rfl
theorem contains_ev (l : List Int) (x : Int) (hl : l.length ≤ 140737488351232) : Ev (fun k => slices_Contains_int_int.f k l x) (decide (x ∈ l)) := by
  unfold slices_Contains_int_int.f
  refine ev_bind (idx_ev l x hl) (ev_now ?_)
  by_cases h : x ∈ l
  · simp [h]
  · simp [h]


theorem spec_order_l (l : List Int) (hl : l.length ≤ 140737488351232) : ∀ (suf pre : List Int), l = pre ++ suf → Ev (fun k => spec_l2Order.l0 k l (pre.length : Int)) (ordGo (l.length : Int) pre suf) := by
  intro suf
  induction suf with
  | nil =>
    intro pre e
    have h := len_end e
    refine ev_succ ?_
    simp only [spec_l2Order.l0.eq_2]
    refine ev_neg (by omega) ?_
    exact ev_now rfl
  | cons c suf ih =>
    intro pre e
    have h := len_mid e
    refine ev_succ ?_
    simp only [spec_l2Order.l0.eq_2, rd_mid' e, take_mid e]
    refine ev_pos (by omega) (ev_pos (by omega) (ev_bind (in_ev _ _ _) ?_))
    by_cases hr : 1 ≤ c ∧ c ≤ (l.length : Int)
    · refine ev_pos (by simp [hr.1, hr.2]) (ev_pos (by omega) (ev_bind (has_ev pre c (by omega)) ?_))
      by_cases hc : c ∈ pre
      · exact ev_pos (by simp [hc]) (ev_now (by simp [ordGo, hc]))
      · refine ev_neg (by simp [hc]) ?_
        rw [wrap_snoc (pre := pre) (c := c) (by omega)]
        refine ev_eq (ih _ (snoc_mid e)) ?_
        simp [ordGo, hr.1, hr.2, hc]
    · refine ev_neg (by simp; omega) (ev_now ?_)
      simp only [ordGo]
      rw [if_neg (fun h => hr ⟨h.1, h.2.1⟩)]
theorem spec_order_ev (l : List Int) (hl : l.length ≤ 140737488351232) : Ev (fun k => spec_l2Order.f k l) (isOrd l) := by
  unfold spec_l2Order.f
  refine ev_bind (in_ev _ _ _) ?_
  unfold isOrd
  by_cases h : 1 ≤ l.length ∧ l.length ≤ 7
  · refine ev_pos (by simp; omega) ?_
    rw [if_pos h]
    exact spec_order_l l hl l [] rfl
  · refine ev_neg (by simp; omega) (ev_now ?_)
    rw [if_neg h]
theorem impl_order_l (l : List Int) (hl : l.length ≤ 140737488351232) : ∀ (suf pre : List Int), l = pre ++ suf → Ev (fun k => impl_isOrder.l0 k l l (l.length : Int) (pre.length : Int)) (ordGo (l.length : Int) pre suf) := by
  intro suf
  induction suf with
  | nil =>
    intro pre e
    have h := len_end e
    refine ev_succ ?_
    simp only [impl_isOrder.l0.eq_2]
    refine ev_neg (by omega) ?_
    exact ev_now rfl
  | cons c suf ih =>
    intro pre e
    have h := len_mid e
    refine ev_succ ?_
    simp only [impl_isOrder.l0.eq_2, rd_mid' e, take_mid e]
    refine ev_pos (by omega) (ev_pos (by omega) (ev_pos (by omega) ?_))
    by_cases h1 : c < 1
    · exact ev_pos h1 (ev_now (by simp only [ordGo]; rw [if_neg (fun h => by omega)]))
    refine ev_neg h1 ?_
    by_cases h2 : c > (l.length : Int)
    · exact ev_pos h2 (ev_now (by simp only [ordGo]; rw [if_neg (fun h => by omega)]))
    refine ev_neg h2 (ev_pos (by omega) (ev_bind (contains_ev pre c (by omega)) ?_))
    by_cases hc : c ∈ pre
    · exact ev_pos (by simp [hc]) (ev_now (by simp [ordGo, hc]))
    · refine ev_neg (by simp [hc]) ?_
      rw [wrap_snoc (pre := pre) (c := c) (by omega)]
      refine ev_eq (ih _ (snoc_mid e)) ?_
      simp only [ordGo]
      rw [if_pos ⟨by omega, by omega, hc⟩]
theorem impl_order_ev (l : List Int) (hl : l.length ≤ 140737488351232) : Ev (fun k => impl_isOrder.f k l) (isOrd l) := by
  have key : ∀ b : Bool, Ev (fun k => impl_isOrder.j0 k l b) (if b = true then false else ordGo (l.length : Int) [] l) := by
    intro b
    refine ev_succ ?_
    simp only [impl_isOrder.j0.eq_2]
    cases b with
    | true => exact ev_pos rfl (ev_now rfl)
    | false => exact ev_neg (by simp) (impl_order_l l hl l [] rfl)
  unfold impl_isOrder.f isOrd
  by_cases h1 : (l.length : Int) < 1
  · refine ev_pos h1 (ev_eq (key true) ?_)
    rw [if_pos rfl, if_neg (fun h => by omega)]
  · refine ev_neg h1 (ev_eq (key _) ?_)
    by_cases h2 : (l.length : Int) > 7
    · rw [if_neg (c := 1 ≤ l.length ∧ l.length ≤ 7) (fun h => by omega), if_pos (decide_eq_true h2)]
    · rw [if_pos (c := 1 ≤ l.length ∧ l.length ≤ 7) ⟨by omega, by omega⟩, if_neg (by simp; omega)]


/-! ### queues -/
theorem qGood_next {rows : List (List Int)} {m : Nat} (h : qGood rows m) (n : Int) : qGood (qStep rows n) (m + 1) := by
  unfold qStep
  by_cases hk : qAt rows n < 0
  · rw [if_pos hk]
    refine ⟨by simp; exact h.1, fun q hq => ?_⟩
    rcases List.mem_append.1 hq with hq | hq
    · have := h.2 q hq; omega
    · simp at hq; subst hq; simp
  · rw [if_neg hk]
    refine ⟨by simp; have := h.1; omega, fun q hq => ?_⟩
    rcases List.mem_or_eq_of_mem_set hq with hq | hq
    · have := h.2 q hq; omega
    · subst hq
      have : ((rows.getD (qAt rows n).toNat []).length ≤ m) := by
        by_cases hl : (qAt rows n).toNat < rows.length
        · rw [List.getD_eq_getElem?_getD, List.getElem?_eq_getElem hl]; exact (h.2 _ (List.getElem_mem hl)).2
        · rw [List.getD_eq_getElem?_getD, List.getElem?_eq_none (by omega)]; simp
      rw [List.length_append, List.length_singleton]; omega
theorem qAt_mid {rows : List (List Int)} {n : Int} {pre s : List (List Int)} (e : rows = pre ++ s) (h : idxGo (lastLt n) s (pre.length : Int) = qAt rows n) {c : List Int} {t : List (List Int)} (hs : s = c :: t) : (lastLt n c = true → qAt rows n = (pre.length : Int)) ∧ (lastLt n c = false → idxGo (lastLt n) t ((pre ++ [c]).length : Int) = qAt rows n) := by
  subst hs
  simp only [idxGo] at h
  refine ⟨fun hb => by rw [if_pos hb] at h; exact h.symm, fun hb => ?_⟩
  rw [if_neg (by simp [hb])] at h
  rw [← h]; simp
theorem rd_last {c : List Int} (h : 0 < c.length) : rd c ((c.length : Int) - 1) ∈ c := by
  unfold rd
  rw [List.getD_eq_getElem?_getD, List.getElem?_eq_getElem (by omega)]
  exact List.getElem_mem _
theorem set_end (rows : List (List Int)) (n : Int) : (rows ++ [([] : List Int)]).set rows.length [n] = rows ++ [[n]] := by
  rw [List.set_append_right _ _ (Nat.le_refl _)]
  simp
theorem spec_q1 (l : List Int) (hl : l.length ≤ 7) (n : Int) (i : Nat) (hi : i < l.length) (hn : rd l (i : Int) = n) (rows : List (List Int)) (hr : rows.length ≤ 7) (hq : ∀ q ∈ rows, 0 < q.length ∧ q.length ≤ 7 ∧ n ∉ q) (R : List (List Int)) (hR : Ev (fun k => spec_l5Queues.l0 k l (qStep rows n) (wrap64 ((i : Int) + 1))) R) :
    ∀ (s pre : List (List Int)), rows = pre ++ s → idxGo (lastLt n) s (pre.length : Int) = qAt rows n → Ev (fun k => spec_l5Queues.l1 k l rows (i : Int) (pre.length : Int)) R := by
  intro s
  induction s with
  | nil =>
    intro pre e h
    have hlen := len_end e
    have hm : qAt rows n = -1 := by rw [← h]; rfl
    have hstep : qStep rows n = rows ++ [[n]] := by unfold qStep; rw [hm, if_pos (by decide)]
    rw [hstep, ← hn] at hR
    refine ev_succ ?_
    simp only [spec_l5Queues.l1.eq_2]
    have hpl : ((pre.length : Int)).toNat = rows.length := by omega
    have hrd : rd_L1 (rows ++ [([] : List Int)]) (pre.length : Int) = [] := by simp [rd_L1, hpl]
    refine ev_neg (by omega) (ev_pos (by omega) (ev_pos (by omega) (ev_let (ev_pos (by omega) (ev_pos (by simp; omega) (ev_pos (by omega) (ev_pos (by omega) ?_)))))))
    rw [hrd, hpl, List.nil_append, set_end]
    exact ev_pos (by simp) hR
  | cons c s ih =>
    intro pre e h
    have hlen := len_mid e
    have hrd : rd_L1 rows (pre.length : Int) = c := by rw [e]; simp [rd_L1]
    have hc := hq c (by rw [e]; simp)
    have hlast := rd_last hc.1
    obtain ⟨q1, q2⟩ := qAt_mid e h rfl
    refine ev_succ ?_
    simp only [spec_l5Queues.l1.eq_2, hrd, hn]
    rw [wrap_of (x := (c.length : Int) - 1) (by omega) (by omega)]
    refine ev_pos (by omega) (ev_pos (by omega) (ev_pos (by omega) (ev_pos (by omega) (ev_pos (by omega) (ev_pos (by omega) ?_)))))
    by_cases hlt : lastLt n c = true
    · have hlt' : rd c ((c.length : Int) - 1) < n := of_decide_eq_true hlt
      have hat := q1 hlt
      have hstep : qStep rows n = rows.set ((pre.length : Int)).toNat (c ++ [n]) := by
        unfold qStep
        rw [hat, if_neg (by omega)]
        have : rows.getD ((pre.length : Int)).toNat [] = c := by rw [e]; simp
        rw [this]
      rw [hstep] at hR
      exact ev_neg (by omega) (ev_neg (by omega) (ev_pos (by omega) hR))
    · have hne : rd c ((c.length : Int) - 1) ≠ n := fun he => hc.2.2 (he ▸ hlast)
      have hge : ¬ rd c ((c.length : Int) - 1) < n := fun h => hlt (decide_eq_true h)
      have hb : lastLt n c = false := by simpa using hlt
      refine ev_pos (by omega) ?_
      rw [wrap_snoc (pre := pre) (c := c) (by omega)]
      exact ih (pre ++ [c]) (snoc_mid e) (q2 hb)
theorem qStep_mem {rows : List (List Int)} {n : Int} {x : Int} {q : List Int} (h : q ∈ qStep rows n) (hx : x ∈ q) : x = n ∨ ∃ p ∈ rows, x ∈ p := by
  unfold qStep at h
  by_cases hk : qAt rows n < 0
  · rw [if_pos hk] at h
    rcases List.mem_append.1 h with h | h
    · exact .inr ⟨q, h, hx⟩
    · simp at h; subst h; simp at hx; exact .inl hx
  · rw [if_neg hk] at h
    rcases List.mem_or_eq_of_mem_set h with h | h
    · exact .inr ⟨q, h, hx⟩
    · subst h
      rcases List.mem_append.1 hx with hx | hx
      · by_cases hl : (qAt rows n).toNat < rows.length
        · rw [List.getD_eq_getElem?_getD, List.getElem?_eq_getElem hl] at hx
          exact .inr ⟨_, List.getElem_mem hl, hx⟩
        · rw [List.getD_eq_getElem?_getD, List.getElem?_eq_none (by omega)] at hx
          simp at hx
      · simp at hx; exact .inl hx
theorem spec_q0 (l : List Int) (hl : l.length ≤ 7) (hd : l.Nodup) : ∀ (suf pre : List Int) (rows : List (List Int)), l = pre ++ suf → qGood rows pre.length → (∀ q ∈ rows, ∀ x ∈ q, x ∈ pre) → Ev (fun k => spec_l5Queues.l0 k l rows (pre.length : Int)) (queuesG suf rows) := by
  intro suf
  induction suf with
  | nil =>
    intro pre rows e _ _
    have hlen := len_end e
    refine ev_succ ?_
    simp only [spec_l5Queues.l0.eq_2]
    exact ev_neg (by omega) (ev_now rfl)
  | cons n suf ih =>
    intro pre rows e hg hm
    have hlen := len_mid e
    have hnp : n ∉ pre := by
      rw [e, List.nodup_append] at hd
      exact fun h => hd.2.2 n h n (by simp) rfl
    refine ev_succ ?_
    simp only [spec_l5Queues.l0.eq_2, queuesG]
    refine ev_pos (by omega) (spec_q1 l hl n pre.length (by omega) (rd_mid' e) rows (by have := hg.1; omega) (fun q hq => ⟨(hg.2 q hq).1, by have := (hg.2 q hq).2; omega, fun hx => hnp (hm q hq n hx)⟩) _ ?_ rows [] rfl rfl)
    rw [wrap_snoc (pre := pre) (c := n) (by omega)]
    refine ih (pre ++ [n]) (qStep rows n) (snoc_mid e) (by have := qGood_next hg n; simpa using this) ?_
    intro q hq x hx
    rcases qStep_mem hq hx with h | ⟨p, hp, hx⟩
    · simp [h]
    · simp [hm p hp x hx]
theorem spec_queues_ev (l : List Int) (h : isOrd l = true) : Ev (fun k => spec_l5Queues.f k l) (queuesG l []) := by
  unfold spec_l5Queues.f
  exact spec_q0 l (ord_len h).2 (ord_nodup h) l [] [] rfl ⟨Nat.le_refl _, fun _ h => by cases h⟩ (fun _ h => by cases h)

def fqR (l : List Int) : Int × Bool := onOrd l 0 ((queuesG l []).length : Int)
theorem fq_spec_ev (l : List Int) (hl : l.length ≤ 140737488351232) : Ev (fun k => spec_FewestQueues.f k l) (fqR l) := by
  unfold spec_FewestQueues.f fqR
  by_cases h1 : isOrd l = true
  · rw [onOrd_pos h1]
    exact ev_bind (spec_order_ev l hl) (ev_pos h1 (ev_bind (spec_queues_ev l h1) (ev_now rfl)))
  · rw [onOrd_neg h1]; exact ev_bind (spec_order_ev l hl) (ev_neg h1 (ev_now rfl))
theorem fq_impl_ev (l : List Int) (hl : l.length ≤ 140737488351232) : Ev (fun k => impl_FewestQueues.f k l) (fqR l) := by
  unfold impl_FewestQueues.f impl_QueuesOf.f fqR
  by_cases h1 : isOrd l = true
  · rw [onOrd_pos h1]
    refine ev_bind (a := (queuesG l [], true)) (ev_bind (impl_order_ev l hl) (ev_pos h1 (ev_bind (ev_const (r := queuesG l []) ?_) (ev_now rfl)))) (ev_now rfl)
    unfold impl_queues.f
    rw [if_pos (ord_len h1).2]
  · rw [onOrd_neg h1]
    exact ev_bind (a := ([], false)) (ev_bind (impl_order_ev l hl) (ev_neg h1 (ev_now rfl))) (ev_now rfl)
theorem FnExactFewestQueues : laws_FnExactFewestQueues.Pure := by
  intro l hm hl hw
  apply Ev.rounds (r := true)
  have hs := fq_spec_ev l (len_max hl)
  have hi := fq_impl_ev l (len_max hl)
  unfold laws_FnExactFewestQueues.f
  by_cases h1 : (l.length : Int) > 1048576
  · exact ev_pos h1 (ev_now rfl)
  refine ev_neg h1 (ev_bind (toInt_ev l hl) (ev_bind hs (ev_bind (toInt_ev l hl) (ev_bind hi (ev_pos rfl ?_)))))
  refine ev_succ ?_
  simp only [laws_FnExactFewestQueues.j0.eq_2]
  exact ev_neg (by simp) (ev_bind (toInt_ev l hl) (ev_bind (eqInt_ev l l hl) (ev_pos (by simp) (ev_now rfl))))
end Go.Proofs.Ytlkddcabjcejdaa.Pure
