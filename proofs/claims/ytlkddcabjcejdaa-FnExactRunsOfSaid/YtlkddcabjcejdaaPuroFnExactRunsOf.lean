/- The pure statement of FnExactRunsOf: program and reference begin a new run at the same places. No condition. -/
import Derived.Test.YtlkddcabjcejdaaMFnExactRunsOfx5
import Derived.Test.YtlkddcabjcejdaaBase
import Derived.Test.YtlkddcabjcejdaaBaseP
import Derived.Test.YtlkddcabjcejdaaBaseF
namespace Go.Proofs.Ytlkddcabjcejdaa.Pure
open Go Go.RowKit Go.Proofs.Ytlkddcabjcejdaa.MFnExactRunsOf Go.Proofs.YtlkddcabjcejdaaW.PrintWords Go.Proofs.Ytlkddcabjcejdaa.Base
set_option linter.unusedVariables false
set_option linter.unusedSimpArgs false
/-! ### Is it an order? -/
theorem in_ev (a b c : Int) : Ev (fun _ => spec_l1In.f a b c) (decide (b ≤ a) && decide (a ≤ c)) := by
  unfold spec_l1In.f
  by_cases h : a ≥ b
  · refine ev_pos h (ev_now ?_)
    have : decide (b ≤ a) = true := decide_eq_true h
    rw [this]; rfl
  · refine ev_neg h (ev_now ?_)
    have : decide (b ≤ a) = false := decide_eq_false (by omega)
    rw [this]; rfl

theorem has_l (l : List Int) (x : Int) (hl : l.length ≤ 140737488351232) : ∀ (suf pre : List Int), l = pre ++ suf → Ev (fun k => spec_l1Has.l0 k l x (pre.length : Int)) (decide (x ∈ suf)) := by
  intro suf
  induction suf with
  | nil =>
    intro pre e
    have h := len_end e
    refine ev_succ ?_
    simp only [spec_l1Has.l0.eq_2]
    refine ev_neg (by omega) ?_
    exact ev_now (by simp)
  | cons c suf ih =>
    intro pre e
    have h := len_mid e
    refine ev_succ ?_
    simp only [spec_l1Has.l0.eq_2, rd_mid' e]
    refine ev_pos (by omega) (ev_pos (by omega) ?_)
    by_cases hc : c = x
    · exact ev_pos hc (ev_now (by simp [hc]))
    · refine ev_neg hc ?_
      rw [wrap_snoc (pre := pre) (c := c) (by omega)]
      refine ev_eq (ih _ (snoc_mid e)) ?_
      have : x ≠ c := fun h => hc h.symm
      simp [this]
theorem has_ev (l : List Int) (x : Int) (hl : l.length ≤ 140737488351232) : Ev (fun k => spec_l1Has.f k l x) (decide (x ∈ l)) := by
  unfold spec_l1Has.f
  exact has_l l x hl l [] rfl
theorem idx_l (l : List Int) (x : Int) (hl : l.length ≤ 140737488351232) : ∀ (suf pre : List Int), l = pre ++ suf → Ev (fun k => slices_Index_int_int.l0 k l x (l.length : Int) (pre.length : Int)) (if x ∈ suf then ((pre.length + suf.idxOf x : Nat) : Int) else -1) := by
  intro suf
  induction suf with
  | nil =>
    intro pre e
    have h := len_end e
    refine ev_succ ?_
    simp only [slices_Index_int_int.l0.eq_2]
    refine ev_neg (by omega) ?_
    exact ev_now (by simp)
  | cons c suf ih =>
    intro pre e
    have h := len_mid e
    refine ev_succ ?_
    simp only [slices_Index_int_int.l0.eq_2, rd_mid' e]
    refine ev_pos (by omega) (ev_pos (by omega) (ev_pos (by omega) ?_))
    by_cases hc : x = c
    · exact ev_pos hc (ev_now (by simp [hc]))
    · refine ev_neg hc ?_
      rw [wrap_snoc (pre := pre) (c := c) (by omega)]
      refine ev_eq (ih _ (snoc_mid e)) ?_
      have hc' : ¬ c = x := fun h => hc h.symm
      have hb : (c == x) = false := by simpa using hc'
      simp only [List.mem_cons, hc, false_or, List.idxOf_cons, hb, cond_false]
      by_cases hm : x ∈ suf
      · rw [if_pos hm, if_pos hm]; simp; omega
      · rw [if_neg hm, if_neg hm]
theorem idx_ev (l : List Int) (x : Int) (hl : l.length ≤ 140737488351232) : Ev (fun k => slices_Index_int_int.f k l x) (if x ∈ l then ((l.idxOf x : Nat) : Int) else -1) := by
  unfold slices_Index_int_int.f
  simpa using idx_l l x hl l [] rfl
theorem contains_ev (l : List Int) (x : Int) (hl : l.length ≤ 140737488351232) : Ev (fun k => slices_Contains_int_int.f k l x) (decide (x ∈ l)) := by
  unfold slices_Contains_int_int.f
  refine ev_bind (idx_ev l x hl) (ev_now ?_)
  by_cases h : x ∈ l
  · simp [h]
  · simp [h]


theorem spec_order_l (l : List Int) (hl : l.length ≤ 140737488351232) : ∀ (suf pre : List Int), l = pre ++ suf → Ev (fun k => spec_l2Order.l0 k l (pre.length : Int)) (ordGo (l.length : Int) pre suf) := by
  intro suf
  induction suf with
  | nil =>
    intro pre e
    have h := len_end e
    refine ev_succ ?_
    simp only [spec_l2Order.l0.eq_2]
    refine ev_neg (by omega) ?_
    exact ev_now rfl
  | cons c suf ih =>
    intro pre e
    have h := len_mid e
    refine ev_succ ?_
    simp only [spec_l2Order.l0.eq_2, rd_mid' e, take_mid e]
    refine ev_pos (by omega) (ev_pos (by omega) (ev_bind (in_ev _ _ _) ?_))
    by_cases hr : 1 ≤ c ∧ c ≤ (l.length : Int)
    · refine ev_pos (by simp [hr.1, hr.2]) (ev_pos (by omega) (ev_bind (has_ev pre c (by omega)) ?_))
      by_cases hc : c ∈ pre
      · exact ev_pos (by simp [hc]) (ev_now (by simp [ordGo, hc]))
      · refine ev_neg (by simp [hc]) ?_
        rw [wrap_snoc (pre := pre) (c := c) (by omega)]
        refine ev_eq (ih _ (snoc_mid e)) ?_
        simp [ordGo, hr.1, hr.2, hc]
    · refine ev_neg (by simp; omega) (ev_now ?_)
      simp only [ordGo]
      rw [if_neg (fun h => hr ⟨h.1, h.2.1⟩)]
theorem spec_order_ev (l : List Int) (hl : l.length ≤ 140737488351232) : Ev (fun k => spec_l2Order.f k l) (isOrd l) := by
  unfold spec_l2Order.f
  refine ev_bind (in_ev _ _ _) ?_
  unfold isOrd
  by_cases h : 1 ≤ l.length ∧ l.length ≤ 7
  · refine ev_pos (by simp; omega) ?_
    rw [if_pos h]
    exact spec_order_l l hl l [] rfl
  · refine ev_neg (by simp; omega) (ev_now ?_)
    rw [if_neg h]
theorem impl_order_l (l : List Int) (hl : l.length ≤ 140737488351232) : ∀ (suf pre : List Int), l = pre ++ suf → Ev (fun k => impl_isOrder.l0 k l l (l.length : Int) (pre.length : Int)) (ordGo (l.length : Int) pre suf) := by
  intro suf
  induction suf with
  | nil =>
    intro pre e
    have h := len_end e
    refine ev_succ ?_
    simp only [impl_isOrder.l0.eq_2]
    refine ev_neg (by omega) ?_
    exact ev_now rfl
  | cons c suf ih =>
    intro pre e
    have h := len_mid e
    refine ev_succ ?_
    simp only [impl_isOrder.l0.eq_2, rd_mid' e, take_mid e]
    refine ev_pos (by omega) (ev_pos (by omega) (ev_pos (by omega) ?_))
    by_cases h1 : c < 1
    · exact ev_pos h1 (ev_now (by simp only [ordGo]; rw [if_neg (fun h => by omega)]))
    refine ev_neg h1 ?_
    by_cases h2 : c > (l.length : Int)
    · exact ev_pos h2 (ev_now (by simp only [ordGo]; rw [if_neg (fun h => by omega)]))
    refine ev_neg h2 (ev_pos (by omega) (ev_bind (contains_ev pre c (by omega)) ?_))
    by_cases hc : c ∈ pre
    · exact ev_pos (by simp [hc]) (ev_now (by simp [ordGo, hc]))
    · refine ev_neg (by simp [hc]) ?_
      rw [wrap_snoc (pre := pre) (c := c) (by omega)]
      refine ev_eq (ih _ (snoc_mid e)) ?_
      simp only [ordGo]
      rw [if_pos ⟨by omega, by omega, hc⟩]
theorem impl_order_ev (l : List Int) (hl : l.length ≤ 140737488351232) : Ev (fun k => impl_isOrder.f k l) (isOrd l) := by
  have key : ∀ b : Bool, Ev (fun k => impl_isOrder.j0 k l b) (if b = true then false else ordGo (l.length : Int) [] l) := by
    intro b
    refine ev_succ ?_
    simp only [impl_isOrder.j0.eq_2]
    cases b with
    | true => exact ev_pos rfl (ev_now rfl)
    | false => exact ev_neg (by simp) (impl_order_l l hl l [] rfl)
  unfold impl_isOrder.f isOrd
  by_cases h1 : (l.length : Int) < 1
  · refine ev_pos h1 (ev_eq (key true) ?_)
    rw [if_pos rfl, if_neg (fun h => by omega)]
  · refine ev_neg h1 (ev_eq (key _) ?_)
    by_cases h2 : (l.length : Int) > 7
    · rw [if_neg (c := 1 ≤ l.length ∧ l.length ≤ 7) (fun h => by omega), if_pos (decide_eq_true h2)]
    · rw [if_pos (c := 1 ≤ l.length ∧ l.length ≤ 7) ⟨by omega, by omega⟩, if_neg (by simp; omega)]


/-! ### runs -/
theorem rPut_next {rows : List (List Int)} {m : Nat} (h0 : 0 < rows.length) (h : rows.length ≤ m + 1) (hq : ∀ q ∈ rows, q.length ≤ m) (n : Int) : rGood (rPut rows n) (m + 1) := by
  unfold rPut
  refine ⟨by simpa using h, fun _ => by simpa using h0, fun q hm => ?_⟩
  rcases List.mem_or_eq_of_mem_set hm with hm | hm
  · have := hq q hm; omega
  · subst hm
    have : ((rows.getD ((rows.length : Int) - 1).toNat []).length ≤ m) := by
      rw [List.getD_eq_getElem?_getD, List.getElem?_eq_getElem (by omega)]
      exact hq _ (List.getElem_mem _)
    rw [List.length_append, List.length_singleton]; omega
theorem rStep_next {l : List Int} {rows : List (List Int)} {m : Nat} (h : rGood rows m) (n : Int) : rGood (rStep l (m : Int) rows n) (m + 1) := by
  unfold rStep
  by_cases hn : rNew l (m : Int) n = true
  · rw [if_pos hn]
    refine rPut_next (by simp) (by simp; exact h.1) (fun q hq => ?_) n
    rcases List.mem_append.1 hq with hq | hq
    · exact h.2.2 q hq
    · simp at hq; subst hq; simp
  · rw [if_neg hn]
    have hm : 0 < m := by
      unfold rNew at hn
      simp at hn; omega
    exact rPut_next (h.2.1 hm) (by have := h.1; omega) h.2.2 n
theorem runsGo_good (l : List Int) : ∀ (suf pre : List Int) (rows : List (List Int)), True → rGood rows pre.length → rGood (runsGo l suf (pre.length : Int) rows) (pre.length + suf.length) := by
  intro suf
  induction suf with
  | nil => intro pre rows _ h; exact h
  | cons n suf ih =>
    intro pre rows _ h
    simp only [runsGo]
    have := ih (pre ++ [n]) (rStep l (pre.length : Int) rows n) trivial (by have := rStep_next (l := l) h n; simpa using this)
    rw [show ((pre ++ [n]).length : Int) = (pre.length : Int) + 1 by simp] at this
    rw [show pre.length + (n :: suf).length = (pre ++ [n]).length + suf.length by simp; omega]
    exact this
theorem spec_r0 (l : List Int) (hl : l.length ≤ 7) : ∀ (suf pre : List Int) (rows : List (List Int)), l = pre ++ suf → rGood rows pre.length → Ev (fun k => spec_l5Runs.l0 k l rows (pre.length : Int)) (runsGo l suf (pre.length : Int) rows) := by
  intro suf
  induction suf with
  | nil =>
    intro pre rows e _
    have hlen := len_end e
    refine ev_succ ?_
    simp only [spec_l5Runs.l0.eq_2]
    exact ev_neg (by omega) (ev_now rfl)
  | cons n suf ih =>
    intro pre rows e hg
    have hlen := len_mid e
    have hrl := hg.1
    have hR := ih (pre ++ [n]) (rStep l (pre.length : Int) rows n) (snoc_mid e) (by have := rStep_next (l := l) hg n; simpa using this)
    rw [← wrap_snoc (pre := pre) (c := n) (by omega)] at hR
    simp only [runsGo]
    rw [show (((pre.length : Int)) + 1) = wrap64 ((pre.length : Int) + 1) by rw [wrap_of (by omega) (by omega)]]
    have hlast : ∀ ys : List (List Int), ys.length ≤ 8 → (∀ q ∈ ys, q.length ≤ 7) → (rd_L1 ys ((ys.length : Int) - 1)).length < 17592186044416 := by
      intro ys _ hq
      unfold rd_L1
      by_cases hlt : ((ys.length : Int) - 1).toNat < ys.length
      · rw [List.getD_eq_getElem?_getD, List.getElem?_eq_getElem hlt]
        have := hq _ (List.getElem_mem hlt)
        simp only [Option.getD_some]; omega
      · rw [List.getD_eq_getElem?_getD, List.getElem?_eq_none (by omega)]; simp
    have hq7 : ∀ q ∈ rows, q.length ≤ 7 := fun q hq => by have := hg.2.2 q hq; omega
    have hq8 : ∀ q ∈ rows ++ [([] : List Int)], q.length ≤ 7 := by
      intro q hq
      rcases List.mem_append.1 hq with hq | hq
      · exact hq7 q hq
      · simp at hq; subst hq; simp
    have hnew : rNew l (pre.length : Int) n = true → rStep l (pre.length : Int) rows n = (rows ++ [([] : List Int)]).set (((rows ++ [([] : List Int)]).length : Int) - 1).toNat (rd_L1 (rows ++ [([] : List Int)]) (((rows ++ [([] : List Int)]).length : Int) - 1) ++ [n]) := by
      intro hn; unfold rStep rPut; rw [if_pos hn]; rfl
    have hold : rNew l (pre.length : Int) n = false → rStep l (pre.length : Int) rows n = rows.set ((rows.length : Int) - 1).toNat (rd_L1 rows ((rows.length : Int) - 1) ++ [n]) := by
      intro hn; unfold rStep rPut; rw [if_neg (by rw [hn]; decide)]; rfl
    have hl8 : (rows ++ [([] : List Int)]).length = rows.length + 1 := by simp
    refine ev_succ ?_
    simp only [spec_l5Runs.l0.eq_2, rd_mid' e]
    refine ev_pos (by omega) ?_
    by_cases hz : (pre.length : Int) = 0
    · have hn : rNew l (pre.length : Int) n = true := by unfold rNew; simp [hz]
      rw [hnew hn] at hR ⊢
      refine ev_pos hz (ev_pos (by omega) (ev_let ?_))
      rw [wrap_of (x := ((rows ++ [([] : List Int)]).length : Int) - 1) (by omega) (by omega)]
      exact ev_pos (by omega) (ev_pos (by omega) (ev_pos (by omega) (ev_pos (hlast _ (by omega) hq8) hR)))
    · refine ev_neg hz (ev_pos (by omega) ?_)
      rw [wrap_of (x := (pre.length : Int) - 1) (by omega) (by omega)]
      refine ev_pos (by omega) (ev_pos (by omega) ?_)
      by_cases hlt : n < rd l ((pre.length : Int) - 1)
      · have hn : rNew l (pre.length : Int) n = true := by unfold rNew; simp [hlt]
        rw [hnew hn] at hR ⊢
        refine ev_pos hlt (ev_pos (by omega) (ev_let ?_))
        rw [wrap_of (x := ((rows ++ [([] : List Int)]).length : Int) - 1) (by omega) (by omega)]
        exact ev_pos (by omega) (ev_pos (by omega) (ev_pos (hlast _ (by omega) hq8) hR))
      · have hn : rNew l (pre.length : Int) n = false := by unfold rNew; rw [decide_eq_false hz, decide_eq_false hlt]; rfl
        have h0 := hg.2.1 (by omega)
        rw [hold hn] at hR ⊢
        refine ev_neg hlt ?_
        rw [wrap_of (x := (rows.length : Int) - 1) (by omega) (by omega)]
        exact ev_pos (by omega) (ev_pos (by omega) (ev_pos (hlast _ (by omega) hq7) hR))
theorem spec_runs_ev (l : List Int) (h : l.length ≤ 7) : Ev (fun k => spec_l5Runs.f k l) (runsGo l l 0 []) := by
  unfold spec_l5Runs.f
  exact spec_r0 l h l [] [] rfl ⟨Nat.le_refl _, fun h => absurd h (Nat.lt_irrefl 0), fun _ h => by cases h⟩

def roR (l : List Int) : List (List Int) × Bool := onOrd l [] (runsGo l l 0 [])
theorem ro_spec_ev (l : List Int) (hl : l.length ≤ 140737488351232) : Ev (fun k => spec_RunsOf.f k l) (roR l) := by
  unfold spec_RunsOf.f roR
  by_cases h1 : isOrd l = true
  · rw [onOrd_pos h1]
    exact ev_bind (spec_order_ev l hl) (ev_pos h1 (ev_bind (spec_runs_ev l (ord_len h1).2) (ev_now rfl)))
  · rw [onOrd_neg h1]; exact ev_bind (spec_order_ev l hl) (ev_neg h1 (ev_now rfl))
theorem ro_impl_ev (l : List Int) (hl : l.length ≤ 140737488351232) : Ev (fun k => impl_RunsOf.f k l) (roR l) := by
  unfold impl_RunsOf.f roR
  by_cases h1 : isOrd l = true
  · rw [onOrd_pos h1]
    refine ev_bind (impl_order_ev l hl) (ev_pos h1 (ev_bind (ev_const (r := runsGo l l 0 []) ?_) (ev_now rfl)))
    unfold impl_runs.f
    rw [if_pos (ord_len h1).2]
  · rw [onOrd_neg h1]
    exact ev_bind (impl_order_ev l hl) (ev_neg h1 (ev_now rfl))
theorem roR_ok (l : List Int) : (roR l).1.length ≤ 1048576 ∧ (roR l).1.all (fun xs => decide (xs.length ≤ 1048576)) = true := by
  by_cases h1 : isOrd l = true
  · have hq : roR l = (runsGo l l 0 [], true) := by unfold roR; rw [onOrd_pos h1]
    have hg : rGood (runsGo l l 0 []) (0 + l.length) := runsGo_good l l [] [] trivial ⟨Nat.le_refl _, fun h => absurd h (Nat.lt_irrefl 0), fun _ h => by cases h⟩
    have h7 := (ord_len h1).2
    rw [hq]
    refine ⟨by have := hg.1; simp only; omega, List.all_eq_true.2 (fun xs hx => ?_)⟩
    have := hg.2.2 xs hx
    exact decide_eq_true (by omega)
  · have hq : roR l = ([], false) := by unfold roR; rw [onOrd_neg h1]
    rw [hq]; simp
theorem FnExactRunsOf : laws_FnExactRunsOf.Pure := by
  intro a hm ha hw
  apply Ev.rounds (r := true)
  unfold laws_FnExactRunsOf.f
  by_cases h1 : (a.length : Int) > 1048576
  · exact ev_pos h1 (ev_now rfl)
  exact ev_neg h1 (ev_bind (ro_spec_ev a (len_max ha)) (ev_bind (ro_impl_ev a (len_max ha)) (ev_pos ⟨rfl, roR_ok a⟩ (ev_now rfl))))
end Go.Proofs.Ytlkddcabjcejdaa.Pure
