/- The pure statement of FnExactRankOfOrder: program and reference rank every list alike. No condition. -/
import Derived.Test.YtcocnmolojcoaaaMFnExactRankOfOrderx3
import Derived.Test.YtcocnmolojcoaaaBase
import Derived.Test.YtcocnmolojcoaaaBaseP
import Derived.Test.YtcocnmolojcoaaaBaseO
namespace Go.Proofs.Ytcocnmolojcoaaa.Pure
open Go Go.RowKit Go.Proofs.Ytcocnmolojcoaaa.MFnExactRankOfOrder Go.Proofs.YtcocnmolojcoaaaW.PrintWords Go.Proofs.Ytcocnmolojcoaaa.Base
set_option linter.unusedVariables false
set_option linter.unusedSimpArgs false
/-! ### laws.toIntS, laws.eqIntS -/
theorem toInt_l (l : List Int) (hl : l.length * 8 ≤ 140737488351232) : ∀ (suf pre : List Int), l = pre ++ suf → Ev (fun k => laws_toIntS.l0 k l (pre ++ List.replicate suf.length 0) (pre.length : Int)) l := by
  intro suf
  induction suf with
  | nil =>
    intro pre e
    have h := len_end e
    refine ev_succ ?_
    simp only [laws_toIntS.l0.eq_2]
    refine ev_neg (by omega) ?_
    exact ev_now (by rw [e]; simp)
  | cons c suf ih =>
    intro pre e
    have h := len_mid e
    refine ev_succ ?_
    simp only [laws_toIntS.l0.eq_2, rd_mid' e]
    refine ev_pos (by omega) (ev_pos (by omega) (ev_pos (by simp; omega) ?_))
    rw [wrap_snoc (pre := pre) (c := c) (by omega)]
    have e2 : (pre ++ List.replicate (c :: suf).length 0).set ((pre.length : Int)).toNat c = (pre ++ [c]) ++ List.replicate suf.length 0 := by
      simp [List.replicate_succ]
    rw [e2]
    exact ih _ (snoc_mid e)
theorem toInt_ev (l : List Int) (hl : l.length * 8 ≤ 140737488351232) : Ev (fun k => laws_toIntS.f k l) l := by
  unfold laws_toIntS.f
  refine ev_pos (by omega) (ev_pos (by omega) ?_)
  have := toInt_l l hl l [] rfl
  simpa using this

theorem eqInt_l (a b : List Int) (hl : a.length * 8 ≤ 140737488351232) : ∀ (s t pre q : List Int), a = pre ++ s → b = q ++ t → pre.length = q.length → s.length = t.length → Ev (fun k => laws_eqIntS.l0 k a b (pre.length : Int)) (decide (s = t)) := by
  intro s
  induction s with
  | nil =>
    intro t pre q e e' h1 h2
    have h := len_end e
    obtain rfl : t = [] := by cases t with
      | nil => rfl
      | cons _ _ => simp at h2
    refine ev_succ ?_
    simp only [laws_eqIntS.l0.eq_2]
    refine ev_neg (by omega) ?_
    exact ev_now (by simp)
  | cons c s ih =>
    intro t pre q e e' h1 h2
    cases t with
    | nil => simp at h2
    | cons d t =>
    have h := len_mid e
    have h' := len_mid e'
    refine ev_succ ?_
    have r1 := rd_mid' e
    have r2 := rd_mid' e'
    rw [← h1] at r2
    simp only [laws_eqIntS.l0.eq_2, r1, r2]
    refine ev_pos (by omega) (ev_pos (by omega) (ev_pos (by omega) ?_))
    by_cases hc : c = d
    · refine ev_pos hc ?_
      rw [wrap_snoc (pre := pre) (c := c) (by omega)]
      refine ev_eq (ih t (pre ++ [c]) (q ++ [d]) (snoc_mid e) (snoc_mid e') (by simp [h1]) (by simpa using h2)) ?_
      simp [hc]
    · refine ev_neg hc (ev_now ?_)
      simp [hc]
theorem eqInt_ev (a b : List Int) (hl : a.length * 8 ≤ 140737488351232) : Ev (fun k => laws_eqIntS.f k a b) (decide (a = b)) := by
  unfold laws_eqIntS.f
  by_cases h : a.length = b.length
  · refine ev_pos (by omega) ?_
    exact eqInt_l a b hl a b [] [] rfl rfl rfl h
  · refine ev_neg (by omega) (ev_now ?_)
    symm
    exact decide_eq_false (fun e => h (by rw [e]))

/-! ### Is it an order? -/
theorem in_ev (a b c : Int) : Ev (fun _ => spec_l1In.f a b c) (decide (b ≤ a) && decide (a ≤ c)) := by
  unfold spec_l1In.f
  by_cases h : a ≥ b
  · refine ev_pos h (ev_now ?_)
    have : decide (b ≤ a) = true := decide_eq_true h
    rw [this]; rfl
  · refine ev_neg h (ev_now ?_)
    have : decide (b ≤ a) = false := decide_eq_false (by omega)
    rw [this]; rfl

theorem has_l (l : List Int) (x : Int) (hl : l.length ≤ 140737488351232) : ∀ (suf pre : List Int), l = pre ++ suf → Ev (fun k => spec_l1Has.l0 k l x (pre.length : Int)) (decide (x ∈ suf)) := by
  intro suf
  induction suf with
  | nil =>
    intro pre e
    have h := len_end e
    refine ev_succ ?_
    simp only [spec_l1Has.l0.eq_2]
    refine ev_neg (by omega) ?_
    exact ev_now (by simp)
  | cons c suf ih =>
    intro pre e
    have h := len_mid e
    refine ev_succ ?_
    simp only [spec_l1Has.l0.eq_2, rd_mid' e]
    refine ev_pos (by omega) (ev_pos (by omega) ?_)
    by_cases hc : c = x
    · exact ev_pos hc (ev_now (by simp [hc]))
    · refine ev_neg hc ?_
      rw [wrap_snoc (pre := pre) (c := c) (by omega)]
      refine ev_eq (ih _ (snoc_mid e)) ?_
      have : x ≠ c := fun h => hc h.symm
      simp [this]
theorem has_ev (l : List Int) (x : Int) (hl : l.length ≤ 140737488351232) : Ev (fun k => spec_l1Has.f k l x) (decide (x ∈ l)) := by
  unfold spec_l1Has.f
  exact has_l l x hl l [] rfl
theorem idx_l (l : List Int) (x : Int) (hl : l.length ≤ 140737488351232) : ∀ (suf pre : List Int), l = pre ++ suf → Ev (fun k => slices_Index_int_int.l0 k l x (l.length : Int) (pre.length : Int)) (if x ∈ suf then ((pre.length + suf.idxOf x : Nat) : Int) else -1) := by
  intro suf
  induction suf with
  | nil =>
    intro pre e
    have h := len_end e
    refine ev_succ ?_
    simp only [slices_Index_int_int.l0.eq_2]
    refine ev_neg (by omega) ?_
    exact ev_now (by simp)
  | cons c suf ih =>
    intro pre e
    have h := len_mid e
    refine ev_succ ?_
    simp only [slices_Index_int_int.l0.eq_2, rd_mid' e]
    refine ev_pos (by omega) (ev_pos (by omega) (ev_pos (by omega) ?_))
    by_cases hc : x = c
    · exact ev_pos hc (ev_now (by simp [hc]))
    · refine ev_neg hc ?_
      rw [wrap_snoc (pre := pre) (c := c) (by omega)]
      refine ev_eq (ih _ (snoc_mid e)) ?_
      have hc' : ¬ c = x := fun h => hc h.symm
      have hb : (c == x) = false := by simpa using hc'
      simp only [List.mem_cons, hc, false_or, List.idxOf_cons, hb, cond_false]
      by_cases hm : x ∈ suf
      · rw [if_pos hm, if_pos hm]; simp; omega
      · rw [if_neg hm, if_neg hm]
theorem idx_ev (l : List Int) (x : Int) (hl : l.length ≤ 140737488351232) : Ev (fun k => slices_Index_int_int.f k l x) (if x ∈ l then ((l.idxOf x : Nat) : Int) else -1) := by
  unfold slices_Index_int_int.f
  simpa using idx_l l x hl l [] rfl
theorem contains_ev (l : List Int) (x : Int) (hl : l.length ≤ 140737488351232) : Ev (fun k => slices_Contains_int_int.f k l x) (decide (x ∈ l)) := by
  unfold slices_Contains_int_int.f
  refine ev_bind (idx_ev l x hl) (ev_now ?_)
  by_cases h : x ∈ l
  · simp [h]
  · simp [h]

theorem spec_order_l (l : List Int) (hl : l.length ≤ 140737488351232) : ∀ (suf pre : List Int), l = pre ++ suf → Ev (fun k => spec_l2Order.l0 k l (pre.length : Int)) (ordGo (l.length : Int) pre suf) := by
  intro suf
  induction suf with
  | nil =>
    intro pre e
    have h := len_end e
    refine ev_succ ?_
    simp only [spec_l2Order.l0.eq_2]
    refine ev_neg (by omega) ?_
    exact ev_now rfl
  | cons c suf ih =>
    intro pre e
    have h := len_mid e
    refine ev_succ ?_
    simp only [spec_l2Order.l0.eq_2, rd_mid' e, take_mid e]
    refine ev_pos (by omega) (ev_pos (by omega) (ev_bind (in_ev _ _ _) ?_))
    by_cases hr : 1 ≤ c ∧ c ≤ (l.length : Int)
    · refine ev_pos (by simp [hr.1, hr.2]) (ev_pos (by omega) (ev_bind (has_ev pre c (by omega)) ?_))
      by_cases hc : c ∈ pre
      · exact ev_pos (by simp [hc]) (ev_now (by simp [ordGo, hc]))
      · refine ev_neg (by simp [hc]) ?_
        rw [wrap_snoc (pre := pre) (c := c) (by omega)]
        refine ev_eq (ih _ (snoc_mid e)) ?_
        simp [ordGo, hr.1, hr.2, hc]
    · refine ev_neg (by simp; omega) (ev_now ?_)
      simp only [ordGo]
      rw [if_neg (fun h => hr ⟨h.1, h.2.1⟩)]
theorem spec_order_ev (l : List Int) (hl : l.length ≤ 140737488351232) : Ev (fun k => spec_l2Order.f k l) (isOrd l) := by
  unfold spec_l2Order.f
  refine ev_bind (in_ev _ _ _) ?_
  unfold isOrd
  by_cases h : 1 ≤ l.length ∧ l.length ≤ 7
  · refine ev_pos (by simp; omega) ?_
    rw [if_pos h]
    exact spec_order_l l hl l [] rfl
  · refine ev_neg (by simp; omega) (ev_now ?_)
    rw [if_neg h]
theorem impl_order_l (l : List Int) (hl : l.length ≤ 140737488351232) : ∀ (suf pre : List Int), l = pre ++ suf → Ev (fun k => impl_isOrder.l0 k l l (l.length : Int) (pre.length : Int)) (ordGo (l.length : Int) pre suf) := by
  intro suf
  induction suf with
  | nil =>
    intro pre e
    have h := len_end e
    refine ev_succ ?_
    simp only [impl_isOrder.l0.eq_2]
    refine ev_neg (by omega) ?_
    exact ev_now rfl
  | cons c suf ih =>
    intro pre e
    have h := len_mid e
    refine ev_succ ?_
    simp only [impl_isOrder.l0.eq_2, rd_mid' e, take_mid e]
    refine ev_pos (by omega) (ev_pos (by omega) (ev_pos (by omega) ?_))
    by_cases h1 : c < 1
    · exact ev_pos h1 (ev_now (by simp only [ordGo]; rw [if_neg (fun h => by omega)]))
    refine ev_neg h1 ?_
    by_cases h2 : c > (l.length : Int)
    · exact ev_pos h2 (ev_now (by simp only [ordGo]; rw [if_neg (fun h => by omega)]))
    refine ev_neg h2 (ev_pos (by omega) (ev_bind (contains_ev pre c (by omega)) ?_))
    by_cases hc : c ∈ pre
    · exact ev_pos (by simp [hc]) (ev_now (by simp [ordGo, hc]))
    · refine ev_neg (by simp [hc]) ?_
      rw [wrap_snoc (pre := pre) (c := c) (by omega)]
      refine ev_eq (ih _ (snoc_mid e)) ?_
      simp only [ordGo]
      rw [if_pos ⟨by omega, by omega, hc⟩]
theorem impl_order_ev (l : List Int) (hl : l.length ≤ 140737488351232) : Ev (fun k => impl_isOrder.f k l) (isOrd l) := by
  have key : ∀ b : Bool, Ev (fun k => impl_isOrder.j0 k l b) (if b = true then false else ordGo (l.length : Int) [] l) := by
    intro b
    refine ev_succ ?_
    simp only [impl_isOrder.j0.eq_2]
    cases b with
    | true => exact ev_pos rfl (ev_now rfl)
    | false => exact ev_neg (by simp) (impl_order_l l hl l [] rfl)
  unfold impl_isOrder.f isOrd
  by_cases h1 : (l.length : Int) < 1
  · refine ev_pos h1 (ev_eq (key true) ?_)
    rw [if_pos rfl, if_neg (fun h => by omega)]
  · refine ev_neg h1 (ev_eq (key _) ?_)
    by_cases h2 : (l.length : Int) > 7
    · rw [if_neg (c := 1 ≤ l.length ∧ l.length ≤ 7) (fun h => by omega), if_pos (decide_eq_true h2)]
    · rw [if_pos (c := 1 ≤ l.length ∧ l.length ≤ 7) ⟨by omega, by omega⟩, if_neg (by simp; omega)]

/-! ### factorials, the sorted order -/
theorem fact_tab : ∀ i : Fin 8, impl_factorial.f 20 ((i.val : Nat) : Int) = some ((fac i.val : Nat) : Int) := by decide +kernel
theorem fact_ev (n : Nat) (h : n ≤ 7) : Ev (fun k => impl_factorial.f k (n : Int)) ((fac n : Nat) : Int) := Ev.of (fun k => impl_factorial.mono _ k) (fact_tab ⟨n, by omega⟩)
theorem ways_tab : ∀ i : Fin 8, spec_l2Ways.f 20 ((i.val : Nat) : Int) = some ((fac i.val : Nat) : Int) := by decide +kernel
theorem ways_ev (n : Nat) (h : n ≤ 7) : Ev (fun k => spec_l2Ways.f k (n : Int)) ((fac n : Nat) : Int) := Ev.of (fun k => spec_l2Ways.mono _ k) (ways_tab ⟨n, by omega⟩)
theorem sorted_tab : ∀ i : Fin 8, impl_sorted.f 20 ((i.val : Nat) : Int) = some (iota 1 i.val) := by decide +kernel
theorem sorted_ev (n : Nat) (h : n ≤ 7) : Ev (fun k => impl_sorted.f k (n : Int)) (iota 1 n) := Ev.of (fun k => impl_sorted.mono _ k) (sorted_tab ⟨n, by omega⟩)
theorem delete_ev (l : List Int) (i : Nat) (h : i < l.length) (hl : l.length ≤ 7) : Ev (fun _ => slices_Delete_int_int.f l (i : Int) (wrap64 ((i : Int) + 1))) (l.eraseIdx i) := by
  unfold slices_Delete_int_int.f
  rw [wrap_of (by omega) (by omega)]
  refine ev_pos (by omega) (ev_pos (by omega) (ev_pos (by omega) (ev_now ?_)))
  rw [← take_drop_erase]
  simp

/-! ### RankOfOrder -/
theorem spec_rk_in (l : List Int) (hl : l.length ≤ 7) (c : Int) (i : Nat) (hi : i < l.length) (hx : rd l (i : Int) = c) (acc : Nat) (R : Int) : ∀ (suf pre : List Int) (a : Nat), l = pre ++ suf → a + suf.length ≤ 7 → acc ≤ 100000 → Ev (fun k => spec_l2Rank.l0 k l ((acc + (a + lessN c suf) * fac (l.length - 1 - i) : Nat) : Int) (wrap64 ((i : Int) + 1))) R → Ev (fun k => spec_l2Rank.l1 k l (acc : Int) (i : Int) (a : Int) (pre.length : Int)) R := by
  intro suf
  induction suf with
  | nil =>
    intro pre a e h1 hacc hR
    have h := len_end e
    refine ev_succ ?_
    simp only [spec_l2Rank.l1.eq_2]
    rw [wrap_of (x := (l.length : Int) - 1) (by omega) (by omega), wrap_of (x := (l.length : Int) - 1 - (i : Int)) (by omega) (by omega), show (l.length : Int) - 1 - (i : Int) = ((l.length - 1 - i : Nat) : Int) by omega]
    refine ev_neg (by omega) (ev_bind (ways_ev _ (by omega)) ?_)
    have hf := fac_le (n := l.length - 1 - i) (by omega)
    have ha : a ≤ 7 := by simp only [List.length_nil] at h1; omega
    have hm : a * fac (l.length - 1 - i) ≤ 7 * 5040 := Nat.mul_le_mul ha hf
    have e1 : (a : Int) * ((fac (l.length - 1 - i) : Nat) : Int) = ((a * fac (l.length - 1 - i) : Nat) : Int) := by simp
    rw [e1, wrap_of (x := ((a * fac (l.length - 1 - i) : Nat) : Int)) (by omega) (by omega), wrap_of (x := (acc : Int) + ((a * fac (l.length - 1 - i) : Nat) : Int)) (by omega) (by omega)]
    have e2 : (acc : Int) + ((a * fac (l.length - 1 - i) : Nat) : Int) = ((acc + (a + lessN c []) * fac (l.length - 1 - i) : Nat) : Int) := by simp [lessN]
    rw [e2]; exact hR
  | cons y suf ih =>
    intro pre a e h1 hacc hR
    have h := len_mid e
    simp only [List.length_cons] at h1
    refine ev_succ ?_
    simp only [spec_l2Rank.l1.eq_2, rd_mid' e, hx]
    rw [wrap_snoc (pre := pre) (c := y) (by omega)]
    refine ev_pos (by omega) (ev_pos (by omega) (ev_pos (by omega) (ev_pos (by omega) ?_)))
    rw [lessN_cons] at hR
    by_cases hc : y < c
    · refine ev_pos hc ?_
      rw [wrap_of (x := (a : Int) + 1) (by omega) (by omega), show (a : Int) + 1 = ((a + 1 : Nat) : Int) by omega]
      refine ih _ _ (snoc_mid e) (by omega) hacc ?_
      rw [if_pos hc] at hR
      rwa [show a + 1 + lessN c suf = a + (1 + lessN c suf) by omega]
    · refine ev_neg hc (ih _ _ (snoc_mid e) (by omega) hacc ?_)
      rw [if_neg hc] at hR
      simpa using hR
theorem spec_rk_l (l : List Int) (hl : l.length ≤ 7) : ∀ (suf pre : List Int) (acc : Nat), l = pre ++ suf → acc + 36000 * suf.length ≤ 300000 → (suf ≠ [] → acc ≤ 100000) → acc + rankL suf ≤ 5040 → Ev (fun k => spec_l2Rank.l0 k l (acc : Int) (pre.length : Int)) ((acc + rankL suf : Nat) : Int) := by
  intro suf
  induction suf with
  | nil =>
    intro pre acc e _ _ h1
    have h := len_end e
    refine ev_succ ?_
    simp only [spec_l2Rank.l0.eq_2]
    exact ev_neg (by omega) (ev_now (by simp [rankL]))
  | cons c suf ih =>
    intro pre acc e _ _ h1
    have h := len_mid e
    refine ev_succ ?_
    simp only [spec_l2Rank.l0.eq_2]
    rw [wrap_snoc (pre := pre) (c := c) (by omega)]
    have h0 : Ev (fun k => spec_l2Rank.l0 k l ((acc + (0 + lessN c suf) * fac (l.length - 1 - pre.length) : Nat) : Int) (wrap64 ((pre.length : Int) + 1))) ((acc + rankL (c :: suf) : Nat) : Int) := by
      simp only [rankL] at h1
      rw [wrap_snoc (pre := pre) (c := c) (by omega), show l.length - 1 - pre.length = suf.length by omega, Nat.zero_add]
      refine ev_eq (ih _ _ (snoc_mid e) (by omega) (by omega) (by omega)) ?_
      simp only [rankL]; omega
    have := spec_rk_in l hl c pre.length (by omega) (rd_mid' e) acc _ suf (pre ++ [c]) 0 (snoc_mid e) (by omega) (by omega) h0
    exact ev_pos (by omega) this
theorem spec_rankorder_ev (l : List Int) (hl : l.length ≤ 140737488351232) : Ev (fun k => spec_RankOfOrder.f k l) (rankR l) := by
  unfold spec_RankOfOrder.f rankR
  by_cases ho : isOrd l = true
  · rw [onOrd_pos ho]
    have h7 := ord_len ho
    have hr := rankL_lt l
    have hf := fac_le h7.2
    refine ev_bind (spec_order_ev l hl) (ev_pos ho (ev_bind (a := ((rankL l : Nat) : Int)) ?_ (ev_now rfl)))
    unfold spec_l2Rank.f
    have := spec_rk_l l h7.2 l [] 0 rfl (by omega) (by omega) (by omega)
    simpa using this
  · rw [onOrd_neg ho]; exact ev_bind (spec_order_ev l hl) (ev_neg ho (ev_now rfl))
theorem impl_rk_l (l : List Int) (hl : l.length ≤ 7) : ∀ (suf pre left : List Int) (acc : Nat), l = pre ++ suf → left.Pairwise (· < ·) → left.Perm suf → acc + rankL suf ≤ 5040 → Ev (fun k => impl_RankOfOrder.l0 k left (acc : Int) l (l.length : Int) (pre.length : Int)) (((acc + rankL suf : Nat) : Int), true) := by
  intro suf
  induction suf with
  | nil =>
    intro pre left acc e hs hp h1
    have h := len_end e
    refine ev_succ ?_
    simp only [impl_RankOfOrder.l0.eq_2]
    exact ev_neg (by omega) (ev_now (by simp [rankL]))
  | cons c suf ih =>
    intro pre left acc e hs hp h1
    have h := len_mid e
    have hc : c ∈ left := hp.symm.subset (by simp)
    have hlen : left.length = suf.length + 1 := by rw [hp.length_eq]; rfl
    have hi : left.idxOf c < left.length := List.idxOf_lt_length_of_mem hc
    have hidx : left.idxOf c = lessN c suf := by
      rw [idx_sorted c left hs hc, lessN_perm hp, lessN_cons, if_neg (by omega), Nat.zero_add]
    refine ev_succ ?_
    simp only [impl_RankOfOrder.l0.eq_2, rd_mid' e]
    refine ev_pos (by omega) (ev_pos (by omega) (ev_pos (by omega) (ev_bind (idx_ev left c (by omega)) ?_)))
    rw [if_pos hc]
    refine ev_bind (delete_ev left (left.idxOf c) hi (by omega)) ?_
    have hel : (left.eraseIdx (left.idxOf c)).length = suf.length := by rw [List.length_eraseIdx_of_lt hi]; omega
    rw [hel]
    refine ev_bind (fact_ev _ (by omega)) ?_
    simp only [rankL] at h1
    have e1 : ((left.idxOf c : Nat) : Int) * ((fac suf.length : Nat) : Int) = ((lessN c suf * fac suf.length : Nat) : Int) := by rw [hidx]; simp
    rw [e1, wrap_of (x := ((lessN c suf * fac suf.length : Nat) : Int)) (by omega) (by omega), wrap_of (x := (acc : Int) + ((lessN c suf * fac suf.length : Nat) : Int)) (by omega) (by omega), wrap_snoc (pre := pre) (c := c) (by omega), show (acc : Int) + ((lessN c suf * fac suf.length : Nat) : Int) = ((acc + lessN c suf * fac suf.length : Nat) : Int) by omega]
    refine ev_eq (ih _ _ _ (snoc_mid e) ?_ ?_ (by omega)) ?_
    · rw [erase_idx left c hc]
      exact hs.sublist List.erase_sublist
    · rw [erase_idx left c hc]
      have := hp.erase c
      simpa using this
    · simp only [rankL]; rw [show acc + lessN c suf * fac suf.length + rankL suf = acc + (lessN c suf * fac suf.length + rankL suf) by omega]
theorem impl_rankorder_ev (l : List Int) (hl : l.length ≤ 140737488351232) : Ev (fun k => impl_RankOfOrder.f k l) (rankR l) := by
  unfold impl_RankOfOrder.f rankR
  by_cases ho : isOrd l = true
  · rw [onOrd_pos ho]
    have h7 := ord_len ho
    have hr := rankL_lt l
    have hf := fac_le h7.2
    refine ev_bind (impl_order_ev l hl) (ev_pos ho (ev_bind (sorted_ev _ h7.2) ?_))
    have := impl_rk_l l h7.2 l [] (iota 1 l.length) 0 rfl (iota_sorted _ _) (ord_perm ho) (by omega)
    simpa using this
  · rw [onOrd_neg ho]; exact ev_bind (impl_order_ev l hl) (ev_neg ho (ev_now rfl))

theorem FnExactRankOfOrder : laws_FnExactRankOfOrder.Pure := by
  intro l hm hl hw
  apply Ev.rounds (r := true)
  have hl' := len_max hl
  unfold laws_FnExactRankOfOrder.f
  by_cases h1 : (l.length : Int) > 1048576
  · exact ev_pos h1 (ev_now rfl)
  refine ev_neg h1 (ev_bind (toInt_ev l hl) (ev_bind (spec_rankorder_ev l hl') (ev_bind (toInt_ev l hl) (ev_bind (impl_rankorder_ev l hl') (ev_pos rfl ?_)))))
  refine ev_succ ?_
  simp only [laws_FnExactRankOfOrder.j0.eq_2]
  exact ev_neg (by simp) (ev_bind (toInt_ev l hl) (ev_bind (eqInt_ev l l hl) (ev_pos (by simp) (ev_now rfl))))
end Go.Proofs.Ytcocnmolojcoaaa.Pure
