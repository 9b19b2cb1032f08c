/- The pure statement of FnExactBadTriple: program and reference tell the same triple, seen at each of the 5913 orders. No condition. -/
import Derived.Test.YtlkddcabjcejdaaMFnExactBadTriplex4
import Derived.Test.YtlkddcabjcejdaaBase
import Derived.Test.YtlkddcabjcejdaaBaseP
import Derived.Test.YtlkddcabjcejdaaBaseF
import Derived.Test.YtlkddcabjcejdaaBaseN
import Derived.Test.YtlkddcabjcejdaaBaseI
import Derived.Test.YtlkddcabjcejdaaBaseG
namespace Go.Proofs.Ytlkddcabjcejdaa.Pure
open Go Go.RowKit Go.Proofs.Ytlkddcabjcejdaa.MFnExactBadTriple Go.Proofs.YtlkddcabjcejdaaW.PrintWords Go.Proofs.Ytlkddcabjcejdaa.Base
set_option linter.unusedVariables false
set_option linter.unusedSimpArgs false
/-! ### Is it an order? -/
theorem in_ev (a b c : Int) : Ev (fun _ => spec_l1In.f a b c) (decide (b ≤ a) && decide (a ≤ c)) := by
  unfold spec_l1In.f
  by_cases h : a ≥ b
  · refine ev_pos h (ev_now ?_)
    have : decide (b ≤ a) = true := decide_eq_true h
    rw [this]; rfl
  · refine ev_neg h (ev_now ?_)
    have : decide (b ≤ a) = false := decide_eq_false (by omega)
    rw [this]; rfl

theorem has_l (l : List Int) (x : Int) (hl : l.length ≤ 140737488351232) : ∀ (suf pre : List Int), l = pre ++ suf → Ev (fun k => spec_l1Has.l0 k l x (pre.length : Int)) (decide (x ∈ suf)) := by
  intro suf
  induction suf with
  | nil =>
    intro pre e
    have h := len_end e
    refine ev_succ ?_
    simp only [spec_l1Has.l0.eq_2]
    refine ev_neg (by omega) ?_
    exact ev_now (by simp)
  | cons c suf ih =>
    intro pre e
    have h := len_mid e
    refine ev_succ ?_
    simp only [spec_l1Has.l0.eq_2, rd_mid' e]
    refine ev_pos (by omega) (ev_pos (by omega) ?_)
    by_cases hc : c = x
    · exact ev_pos hc (ev_now (by simp [hc]))
    · refine ev_neg hc ?_
      rw [wrap_snoc (pre := pre) (c := c) (by omega)]
      refine ev_eq (ih _ (snoc_mid e)) ?_
      have : x ≠ c := fun h => hc h.symm
      simp [this]
theorem has_ev (l : List Int) (x : Int) (hl : l.length ≤ 140737488351232) : Ev (fun k => spec_l1Has.f k l x) (decide (x ∈ l)) := by
  unfold spec_l1Has.f
  exact has_l l x hl l [] rfl
theorem idx_l (l : List Int) (x : Int) (hl : l.length ≤ 140737488351232) : ∀ (suf pre : List Int), l = pre ++ suf → Ev (fun k => slices_Index_int_int.l0 k l x (l.length : Int) (pre.length : Int)) (if x ∈ suf then ((pre.length + suf.idxOf x : Nat) : Int) else -1) := by
  intro suf
  induction suf with
  | nil =>
    intro pre e
    have h := len_end e
    refine ev_succ ?_
    simp only [slices_Index_int_int.l0.eq_2]
    refine ev_neg (by omega) ?_
    exact ev_now (by simp)
  | cons c suf ih =>
    intro pre e
    have h := len_mid e
    refine ev_succ ?_
    simp only [slices_Index_int_int.l0.eq_2, rd_mid' e]
    refine ev_pos (by omega) (ev_pos (by omega) (ev_pos (by omega) ?_))
    by_cases hc : x = c
    · exact ev_pos hc (ev_now (by simp [hc]))
    · refine ev_neg hc ?_
      rw [wrap_snoc (pre := pre) (c := c) (by omega)]
      refine ev_eq (ih _ (snoc_mid e)) ?_
      have hc' : ¬ c = x := fun h => hc h.symm
      have hb : (c == x) = false := by simpa using hc'
      simp only [List.mem_cons, hc, false_or, List.idxOf_cons, hb, cond_false]
      by_cases hm : x ∈ suf
      · rw [if_pos hm, if_pos hm]; simp; omega
      · rw [if_neg hm, if_neg hm]
theorem idx_ev (l : List Int) (x : Int) (hl : l.length ≤ 140737488351232) : Ev (fun k => slices_Index_int_int.f k l x) (if x ∈ l then ((l.idxOf x : Nat) : Int) else -1) := by
  unfold slices_Index_int_int.f
  simpa using idx_l l x hl l [] rfl
theorem contains_ev (l : List Int) (x : Int) (hl : l.length ≤ 140737488351232) : Ev (fun k => slices_Contains_int_int.f k l x) (decide (x ∈ l)) := by
  unfold slices_Contains_int_int.f
  refine ev_bind (idx_ev l x hl) (ev_now ?_)
  by_cases h : x ∈ l
  · simp [h]
  · simp [h]


theorem spec_order_l (l : List Int) (hl : l.length ≤ 140737488351232) : ∀ (suf pre : List Int), l = pre ++ suf → Ev (fun k => spec_l2Order.l0 k l (pre.length : Int)) (ordGo (l.length : Int) pre suf) := by
  intro suf
  induction suf with
  | nil =>
    intro pre e
    have h := len_end e
    refine ev_succ ?_
    simp only [spec_l2Order.l0.eq_2]
    refine ev_neg (by omega) ?_
    exact ev_now rfl
  | cons c suf ih =>
    intro pre e
    have h := len_mid e
    refine ev_succ ?_
    simp only [spec_l2Order.l0.eq_2, rd_mid' e, take_mid e]
    refine ev_pos (by omega) (ev_pos (by omega) (ev_bind (in_ev _ _ _) ?_))
    by_cases hr : 1 ≤ c ∧ c ≤ (l.length : Int)
    · refine ev_pos (by simp [hr.1, hr.2]) (ev_pos (by omega) (ev_bind (has_ev pre c (by omega)) ?_))
      by_cases hc : c ∈ pre
      · exact ev_pos (by simp [hc]) (ev_now (by simp [ordGo, hc]))
      · refine ev_neg (by simp [hc]) ?_
        rw [wrap_snoc (pre := pre) (c := c) (by omega)]
        refine ev_eq (ih _ (snoc_mid e)) ?_
        simp [ordGo, hr.1, hr.2, hc]
    · refine ev_neg (by simp; omega) (ev_now ?_)
      simp only [ordGo]
      rw [if_neg (fun h => hr ⟨h.1, h.2.1⟩)]
theorem spec_order_ev (l : List Int) (hl : l.length ≤ 140737488351232) : Ev (fun k => spec_l2Order.f k l) (isOrd l) := by
  unfold spec_l2Order.f
  refine ev_bind (in_ev _ _ _) ?_
  unfold isOrd
  by_cases h : 1 ≤ l.length ∧ l.length ≤ 7
  · refine ev_pos (by simp; omega) ?_
    rw [if_pos h]
    exact spec_order_l l hl l [] rfl
  · refine ev_neg (by simp; omega) (ev_now ?_)
    rw [if_neg h]
theorem impl_order_l (l : List Int) (hl : l.length ≤ 140737488351232) : ∀ (suf pre : List Int), l = pre ++ suf → Ev (fun k => impl_isOrder.l0 k l l (l.length : Int) (pre.length : Int)) (ordGo (l.length : Int) pre suf) := by
  intro suf
  induction suf with
  | nil =>
    intro pre e
    have h := len_end e
    refine ev_succ ?_
    simp only [impl_isOrder.l0.eq_2]
    refine ev_neg (by omega) ?_
    exact ev_now rfl
  | cons c suf ih =>
    intro pre e
    have h := len_mid e
    refine ev_succ ?_
    simp only [impl_isOrder.l0.eq_2, rd_mid' e, take_mid e]
    refine ev_pos (by omega) (ev_pos (by omega) (ev_pos (by omega) ?_))
    by_cases h1 : c < 1
    · exact ev_pos h1 (ev_now (by simp only [ordGo]; rw [if_neg (fun h => by omega)]))
    refine ev_neg h1 ?_
    by_cases h2 : c > (l.length : Int)
    · exact ev_pos h2 (ev_now (by simp only [ordGo]; rw [if_neg (fun h => by omega)]))
    refine ev_neg h2 (ev_pos (by omega) (ev_bind (contains_ev pre c (by omega)) ?_))
    by_cases hc : c ∈ pre
    · exact ev_pos (by simp [hc]) (ev_now (by simp [ordGo, hc]))
    · refine ev_neg (by simp [hc]) ?_
      rw [wrap_snoc (pre := pre) (c := c) (by omega)]
      refine ev_eq (ih _ (snoc_mid e)) ?_
      simp only [ordGo]
      rw [if_pos ⟨by omega, by omega, hc⟩]
theorem impl_order_ev (l : List Int) (hl : l.length ≤ 140737488351232) : Ev (fun k => impl_isOrder.f k l) (isOrd l) := by
  have key : ∀ b : Bool, Ev (fun k => impl_isOrder.j0 k l b) (if b = true then false else ordGo (l.length : Int) [] l) := by
    intro b
    refine ev_succ ?_
    simp only [impl_isOrder.j0.eq_2]
    cases b with
    | true => exact ev_pos rfl (ev_now rfl)
    | false => exact ev_neg (by simp) (impl_order_l l hl l [] rfl)
  unfold impl_isOrder.f isOrd
  by_cases h1 : (l.length : Int) < 1
  · refine ev_pos h1 (ev_eq (key true) ?_)
    rw [if_pos rfl, if_neg (fun h => by omega)]
  · refine ev_neg h1 (ev_eq (key _) ?_)
    by_cases h2 : (l.length : Int) > 7
    · rw [if_neg (c := 1 ≤ l.length ∧ l.length ≤ 7) (fun h => by omega), if_pos (decide_eq_true h2)]
    · rw [if_pos (c := 1 ≤ l.length ∧ l.length ≤ 7) ⟨by omega, by omega⟩, if_neg (by simp; omega)]


/-! ### BadTriple -/
def btB (l : List Int) : Bool := match fpR l [2, 3, 1], btI l l.length 0 with
  | ([a, b, c], true), some q => decide (q = (a, b, c))
  | (_, false), none => true
  | _, _ => false
theorem bt1 : (ordsN 1).all btB = true := by decide +kernel
theorem bt2 : (ordsN 2).all btB = true := by decide +kernel
theorem bt3 : (ordsN 3).all btB = true := by decide +kernel
theorem bt4 : (ordsN 4).all btB = true := by decide +kernel
theorem bt5 : (ordsN 5).all btB = true := by decide +kernel
theorem bt6 : (ordsN 6).all btB = true := by decide +kernel
theorem bt7_1 : ((permsN 6 [2, 3, 4, 5, 6, 7]).map (fun s => (1 : Int) :: s)).all btB = true := by decide +kernel
theorem bt7_2 : ((permsN 6 [1, 3, 4, 5, 6, 7]).map (fun s => (2 : Int) :: s)).all btB = true := by decide +kernel
theorem bt7_3 : ((permsN 6 [1, 2, 4, 5, 6, 7]).map (fun s => (3 : Int) :: s)).all btB = true := by decide +kernel
theorem bt7_4 : ((permsN 6 [1, 2, 3, 5, 6, 7]).map (fun s => (4 : Int) :: s)).all btB = true := by decide +kernel
theorem bt7_5 : ((permsN 6 [1, 2, 3, 4, 6, 7]).map (fun s => (5 : Int) :: s)).all btB = true := by decide +kernel
theorem bt7_6 : ((permsN 6 [1, 2, 3, 4, 5, 7]).map (fun s => (6 : Int) :: s)).all btB = true := by decide +kernel
theorem bt7_7 : ((permsN 6 [1, 2, 3, 4, 5, 6]).map (fun s => (7 : Int) :: s)).all btB = true := by decide +kernel
theorem bt7 : (ordsN 7).all btB = true := ord7_all btB bt7_1 bt7_2 bt7_3 bt7_4 bt7_5 bt7_6 bt7_7
theorem bt_ok {l : List Int} (h : isOrd l = true) : btB l = true := ord_all btB bt1 bt2 bt3 bt4 bt5 bt6 bt7 h
def btR (l : List Int) : (Int × Int × Int) × Bool := if isOrd l = true then btOut (btI l l.length 0) else ((0, 0, 0), false)
theorem bt_spec_ev (l : List Int) (hl0 : l.length ≤ 1048576) (hl : l.length ≤ 140737488351232) : Ev (fun k => spec_BadTriple.f k l) (btR l) := by
  unfold spec_BadTriple.f btR
  refine ev_pos hl0 ?_
  by_cases h1 : isOrd l = true
  · rw [if_pos h1]
    exact ev_bind (spec_order_ev l hl) (ev_now (by rw [if_pos h1]))
  · rw [if_neg h1]
    exact ev_bind (spec_order_ev l hl) (ev_now (by rw [if_neg h1]))
theorem bt_impl_ev (l : List Int) (hl : l.length ≤ 140737488351232) : Ev (fun k => impl_BadTriple.f k l) (btR l) := by
  unfold impl_BadTriple.f btR
  by_cases h1 : isOrd l = true
  · rw [if_pos h1]
    have hb := bt_ok h1
    have hf : impl_firstPlaces.f l [2, 3, 1] = some (fpR l [2, 3, 1]) := by
      unfold impl_firstPlaces.f; rw [if_pos ⟨(ord_len h1).2, by decide⟩]
    refine ev_bind (impl_order_ev l hl) (ev_pos h1 (ev_bind (ev_const hf) ?_))
    unfold btB at hb
    cases hq : fpR l [2, 3, 1] with
    | mk ps ok =>
      rw [hq] at hb
      cases hi : btI l l.length 0 with
      | none =>
        rw [hi] at hb
        cases ok with
        | true => rcases ps with _ | ⟨x, _ | ⟨y, _ | ⟨z, _ | ⟨u, t⟩⟩⟩⟩ <;> simp at hb
        | false => rcases ps with _ | ⟨x, _ | ⟨y, _ | ⟨z, _ | ⟨u, t⟩⟩⟩⟩ <;> exact ev_now rfl
      | some p =>
        rw [hi] at hb
        cases ok with
        | false => rcases ps with _ | ⟨x, _ | ⟨y, _ | ⟨z, _ | ⟨u, t⟩⟩⟩⟩ <;> simp at hb
        | true =>
          rcases ps with _ | ⟨x, _ | ⟨y, _ | ⟨z, _ | ⟨u, t⟩⟩⟩⟩
          · simp at hb
          · simp at hb
          · simp at hb
          · exact ev_now (by rw [of_decide_eq_true hb]; rfl)
          · simp at hb
  · rw [if_neg h1]
    exact ev_bind (impl_order_ev l hl) (ev_neg h1 (ev_now rfl))

theorem FnExactBadTriple : laws_FnExactBadTriple.Pure := by
  intro a hm ha hw
  apply Ev.rounds (r := true)
  unfold laws_FnExactBadTriple.f
  by_cases h1 : (a.length : Int) > 1048576
  · exact ev_pos h1 (ev_now rfl)
  exact ev_neg h1 (ev_bind (bt_spec_ev a (by omega) (len_max ha)) (ev_bind (bt_impl_ev a (len_max ha)) (ev_pos rfl (ev_now rfl))))
end Go.Proofs.Ytlkddcabjcejdaa.Pure
