/- The functions that FnOrders comes to, with a walk for each. Made by this session's own program (wip/tools/mk.py), in the form of the kit's print; walks named in NOTES.md were written by hand. -/
import Derived.Test.YtlkddcabjcejdaaMFnOrdersx0
import Derived.Test.YtlkddcabjcejdaaMFnOrdersx2
import Derived.Test.YtlkddcabjcejdaaMFnOrdersx4
import Derived.Test.YtlkddcabjcejdaaMFnOrdersx6
import Derived.Test.YtlkddcabjcejdaaMFnOrdersx9
namespace Go.Proofs.Ytlkddcabjcejdaa.MFnOrders
open Go.RowKit Go.Proofs.YtlkddcabjcejdaaW.PrintWords Go.Proofs.YtlkddcabjcejdaaW.PrintLast Go.Proofs.YtlkddcabjcejdaaW.PrintMore
attribute [local go_sem] max2_int min2_int max_two min_two max_three min_three max_four min_four   -- for this text's walks alone
set_option linter.unusedVariables false
set_option linter.unusedSimpArgs false

/-! ### spec_ComposeOrders: function 64 -/
mutual
def spec_ComposeOrders.j0 : Nat → List Int → List Int → List Int → Bool → Option (List Int × Bool)
  | 0, _, _, _, _ => none
  | k + 1, x0, x1, x6, x23 => if x23 = true then (some (x6, false)) else (spec_ComposeOrders.l0 k x0 x1 x6 0)
def spec_ComposeOrders.l0 : Nat → List Int → List Int → List Int → Int → Option (List Int × Bool)
  | 0, _, _, _, _ => none
  | k + 1, x0, x1, x6, x7 => if x7 < (x1.length : Int) then (if 0 ≤ x7 then (if 0 ≤ (wrap64 ((rd x1 x7) - 1)) then (if (wrap64 ((rd x1 x7) - 1)) < (x0.length : Int) then (if x6.length < 17592186044416 then (spec_ComposeOrders.l0 k x0 x1 (x6 ++ [rd x0 (wrap64 ((rd x1 x7) - 1))]) (wrap64 (x7 + 1))) else (none)) else (none)) else (none)) else (none)) else (some (x6, true))
end
def spec_ComposeOrders.f (k : Nat) (l0 : List Int) (l1 : List Int) : Option (List Int × Bool) := (some (([] : List Int) : List Int)).bind fun y369 => ((spec_l2Order.f k l0).bind fun t372 => (if t372 = true then ((spec_l2Order.f k l1).bind fun t373 => (if t373 = true then (spec_ComposeOrders.j0 k l0 l1 y369 ((l0.length : Int) != (l1.length : Int))) else (spec_ComposeOrders.j0 k l0 l1 y369 true))) else (spec_ComposeOrders.j0 k l0 l1 y369 true)))
theorem spec_ComposeOrders.mono_l : ∀ k, (∀ y0 y1 y2 y3, LeO (spec_ComposeOrders.j0 k y0 y1 y2 y3) (spec_ComposeOrders.j0 (k + 1) y0 y1 y2 y3)) ∧ (∀ y0 y1 y2 y3, LeO (spec_ComposeOrders.l0 k y0 y1 y2 y3) (spec_ComposeOrders.l0 (k + 1) y0 y1 y2 y3))
  | 0 => ⟨fun _ _ _ _ r h => by simp [spec_ComposeOrders.j0] at h, fun _ _ _ _ r h => by simp [spec_ComposeOrders.l0] at h⟩
  | k + 1 => by
    obtain ⟨ih0, ih1⟩ := spec_ComposeOrders.mono_l k
    refine ⟨?_, ?_⟩
    · intro y0 y1 y2 y3
      unfold spec_ComposeOrders.j0
      repeat' first
      | (with_reducible exact ih0 _ _ _ _)
      | (with_reducible exact ih1 _ _ _ _)
      | (with_reducible exact spec_l2Order.mono _ _)
      | (with_reducible exact LeO.refl _)
      | (with_reducible exact LeO.none _)
      | (with_reducible refine LeO.ite ?_ ?_)
      | (with_reducible refine LeO.bind ?_ (fun _ => ?_))
      | exact ih0 _ _ _ _
      | exact ih1 _ _ _ _
      | exact spec_l2Order.mono _ _
      | exact LeO.none _
      | refine LeO.ite ?_ ?_
      | refine LeO.bind ?_ (fun _ => ?_)
    · intro y0 y1 y2 y3
      unfold spec_ComposeOrders.l0
      repeat' first
      | (with_reducible exact ih0 _ _ _ _)
      | (with_reducible exact ih1 _ _ _ _)
      | (with_reducible exact spec_l2Order.mono _ _)
      | (with_reducible exact LeO.refl _)
      | (with_reducible exact LeO.none _)
      | (with_reducible refine LeO.ite ?_ ?_)
      | (with_reducible refine LeO.bind ?_ (fun _ => ?_))
      | exact ih0 _ _ _ _
      | exact ih1 _ _ _ _
      | exact spec_l2Order.mono _ _
      | exact LeO.none _
      | refine LeO.ite ?_ ?_
      | refine LeO.bind ?_ (fun _ => ?_)
theorem spec_ComposeOrders.mono : ∀ a0 a1 k, LeO (spec_ComposeOrders.f k a0 a1) (spec_ComposeOrders.f (k + 1) a0 a1) := by
  intro a0 a1 k
  obtain ⟨ih0, ih1⟩ := spec_ComposeOrders.mono_l k
  unfold spec_ComposeOrders.f
  repeat' first
      | (with_reducible exact ih0 _ _ _ _)
      | (with_reducible exact ih1 _ _ _ _)
      | (with_reducible exact spec_l2Order.mono _ _)
      | (with_reducible exact LeO.refl _)
      | (with_reducible exact LeO.none _)
      | (with_reducible refine LeO.ite ?_ ?_)
      | (with_reducible refine LeO.bind ?_ (fun _ => ?_))
      | exact ih0 _ _ _ _
      | exact ih1 _ _ _ _
      | exact spec_l2Order.mono _ _
      | exact LeO.none _
      | refine LeO.ite ?_ ?_
      | refine LeO.bind ?_ (fun _ => ?_)
set_option maxHeartbeats 8000000 in
set_option maxRecDepth 100000 in
theorem spec_ComposeOrders.calls (k : Nat) (A0 : Option Addr) (c0 : Nat) (l0 : List Int) (A1 : Option Addr) (c1 : Nat) (l1 : List Int) (r1 : List Int) (r2 : Bool) (w : World) (hr0 : Kd.C (Kd.int .i64) w A0 l0.length l0) (hc0 : l0.length ≤ c0) (hr1 : Kd.C (Kd.int .i64) w A1 l1.length l1) (hc1 : l1.length ≤ c1) (h : spec_ComposeOrders.f k l0 l1 = some (r1, r2)) :
    Calls Try.prog 64 #[.slice A0 l0.length c0, .slice A1 l1.length c1] w fun e w' => ∃ v0_ : Value, e = .returned (.tuple #[v0_, .bool r2]) ∧ Kd.R (Kd.int .i64) 3 w' w.heap.size (fun _ => True) v0_ r1 ∧ Below w.heap.size w w' := by
  have HR0 := Aside0.mk hr0
  have HC0 := Aside0.mk hc0
  clear hr0 hc0
  have HR1 := Aside0.mk hr1
  have HC1 := Aside0.mk hc1
  clear hr1 hc1
  have HB := Aside0.mk (Below.refl w.heap.size w)
  have H : ((some (([] : List Int) : List Int)).bind fun y369 => ((spec_l2Order.f k l0).bind fun t372 => (if t372 = true then ((spec_l2Order.f k l1).bind fun t373 => (if t373 = true then (spec_ComposeOrders.j0 k l0 l1 y369 ((l0.length : Int) != (l1.length : Int))) else (spec_ComposeOrders.j0 k l0 l1 y369 true))) else (spec_ComposeOrders.j0 k l0 l1 y369 true)))) = some (r1, r2) := h
  clear h
  obtain ⟨y369, hy369⟩ : ∃ y_ : List Int, y_ = (([] : List Int)) := ⟨_, rfl⟩
  replace H : ((spec_l2Order.f k l0).bind fun t372 => (if t372 = true then ((spec_l2Order.f k l1).bind fun t373 => (if t373 = true then (spec_ComposeOrders.j0 k l0 l1 y369 ((l0.length : Int) != (l1.length : Int))) else (spec_ComposeOrders.j0 k l0 l1 y369 true))) else (spec_ComposeOrders.j0 k l0 l1 y369 true))) = some (r1, r2) := by first | (rw [hy369]; with_reducible exact H) | (have H2_ := (Option.bind_some _ _).symm.trans H; rw [hy369]; with_reducible exact H2_) | (have H2_ := (Option.bind_some _ _).symm.trans H; with_reducible exact H2_) | with_reducible exact H | (rw [hy369]; exact H) | exact H
  have Ny369 := Aside0.mk hy369
  clear hy369
  have HC3 := Aside0.mk H
  clear H
  go_enter Try.func64, Try.ntmps64
  go_upto_region 2 with (first | ((with_reducible refine gate_dst (N := 8) rfl ?_); (try (refine gate_guard (by rfl) ?_; dsimp only)); refine Kd.R_lit (Kd.int .i64) _ 3 ?hg (N := 8) ?hd (xs := ([] : List Int)) (inner := []) (ok := fun _ => True) (okp := fun _ => True) ?hr ?hp (fun _ hk => hk) trivial (Below.refl _ _) (Nat.le_refl _) (by simp) ?_; (case hd => rfl); (case hg => rfl); (case hr => first | (go_simp; done) | (go_simp; rfl)); (case hp => exact (Reps.none _ _)); intro v370 w4 ho5 hb hg_ hnew_; clear hg_ hnew_; (first | rw [← Ny369.out] at ho5 | (simp only [Int.reduceToNat] at ho5; rw [← Ny369.out] at ho5)); have n0_ := Aside0.mk (Kd.R_lower ho5 (below_size (by repeat (first | (with_reducible first | exact HB.out | apply below_alloc | apply pw_below_drewN | apply below_drew1) | exact HB.out)))); have n1_ := Aside0.mk (below_step (by repeat (first | (with_reducible first | exact HB.out | apply below_alloc | apply pw_below_drewN | apply below_drew1) | exact HB.out)) hb); clear HB; have HO371 := n0_; have HB := n1_; clear n0_ n1_; clear hb ho5))
  (try simp only [Act.put, List.setIfInBounds_toArray, List.set_cons_zero, List.set_cons_succ])
  go_cut [23] (fun v23 wc => ∃ (kq : Nat) (x23_2 : Bool), v23 = .bool x23_2 ∧ Aside0 (spec_ComposeOrders.j0 kq l0 l1 y369 x23_2 = some (r1, r2)) ∧ Aside0 (kq ≤ k) ∧ Aside0 (Kd.R (Kd.int .i64) 3 wc w.heap.size (fun _ => True) v370 y369) ∧ Aside0 (Below w.heap.size w wc))
  case first =>
    have H := HC3.out
    clear HC3
    replace H := Option.bind_eq_some_iff.mp H
    obtain ⟨t372, A60, H⟩ := H
    replace H : (if t372 = true then ((spec_l2Order.f k l1).bind fun t373 => (if t373 = true then (spec_ComposeOrders.j0 k l0 l1 y369 ((l0.length : Int) != (l1.length : Int))) else (spec_ComposeOrders.j0 k l0 l1 y369 true))) else (spec_ComposeOrders.j0 k l0 l1 y369 true)) = some (r1, r2) := H
    have A6 := Aside0.mk A60
    clear A60
    by_cases c7 : t372 = true
    · subst c7
      have H1 : ((spec_l2Order.f k l1).bind fun t373 => (if t373 = true then (spec_ComposeOrders.j0 k l0 l1 y369 ((l0.length : Int) != (l1.length : Int))) else (spec_ComposeOrders.j0 k l0 l1 y369 true))) = some (r1, r2) := by rw [if_pos rfl] at H; exact H
      clear H
      have H := H1
      clear H1
      replace H := Option.bind_eq_some_iff.mp H
      obtain ⟨t373, A80, H⟩ := H
      replace H : (if t373 = true then (spec_ComposeOrders.j0 k l0 l1 y369 ((l0.length : Int) != (l1.length : Int))) else (spec_ComposeOrders.j0 k l0 l1 y369 true)) = some (r1, r2) := H
      have A8 := Aside0.mk A80
      clear A80
      by_cases c9 : t373 = true
      · subst c9
        have H1 : (spec_ComposeOrders.j0 k l0 l1 y369 ((l0.length : Int) != (l1.length : Int))) = some (r1, r2) := by rw [if_pos rfl] at H; exact H
        clear H
        have H := H1
        clear H1
        have H' := Aside0.mk H
        clear H
        go_wp2_with (first | ((with_reducible refine gate_callee (f := 142) rfl ?_); refine goesL_ (some 10) rfl rfl Try.func142 (by kernel_rfl) rfl #[.slice A0 l0.length c0] rfl (by (try simp only [List.map_toArray, List.map_cons, List.map_nil]); first | done | rfl | (simp only [List.length_drop, List.length_take]; rfl)) ?_; (with_reducible refine (spec_l2Order.calls k _ _ l0 true _ ?side1 ?side2 A6.out).mono ?_); (case side1 => repeat (first | exact (Kd.C_below HR0.out HB.out) | (with_reducible refine Kd.C_alloc ?_ _) | (with_reducible refine Kd.C_drewN ?_ _) | (with_reducible refine Kd.C_drew ?_))); (case side2 => exact HC0.out); rintro e w' ⟨rfl, ⟨nd, rfl⟩⟩; refine ⟨_, rfl, ?_⟩) | (go_at_call 142; (with_reducible refine (spec_l2Order.calls k _ _ l1 true _ ?side1 ?side2 A8.out).mono ?_); (case side1 => repeat (first | exact (Kd.C_below HR1.out (by repeat (first | (with_reducible first | exact HB.out | apply below_alloc | apply pw_below_drewN | apply below_drew1) | exact HB.out))) | (with_reducible refine Kd.C_alloc ?_ _) | (with_reducible refine Kd.C_drewN ?_ _) | (with_reducible refine Kd.C_drew ?_))); (case side2 => exact HC1.out); rintro e w' ⟨rfl, ⟨nd, rfl⟩⟩))
        go_meet
        case rel => exact ⟨_, (((l0.length : Int) != (l1.length : Int))), (by first | rfl | (simp; done) | (simp [*]; done)), H', ⟨by first | omega | exact Nat.le_refl _⟩, ⟨by (with_reducible repeat (first | apply Kd.R_alloc | apply Kd.R_drewN | apply Kd.R_drew)); exact HO371.out⟩, ⟨by repeat (first | (with_reducible first | exact HB.out | apply below_alloc | apply pw_below_drewN | apply below_drew1) | exact HB.out)⟩⟩
      · replace c9 := Bool.eq_false_iff.mpr c9
        subst c9
        have H1 : (spec_ComposeOrders.j0 k l0 l1 y369 true) = some (r1, r2) := by rw [if_neg (show ¬ (false = true) by decide)] at H; exact H
        clear H
        have H := H1
        clear H1
        have H' := Aside0.mk H
        clear H
        go_wp2_with (first | ((with_reducible refine gate_callee (f := 142) rfl ?_); refine goesL_ (some 10) rfl rfl Try.func142 (by kernel_rfl) rfl #[.slice A0 l0.length c0] rfl (by (try simp only [List.map_toArray, List.map_cons, List.map_nil]); first | done | rfl | (simp only [List.length_drop, List.length_take]; rfl)) ?_; (with_reducible refine (spec_l2Order.calls k _ _ l0 true _ ?side1 ?side2 A6.out).mono ?_); (case side1 => repeat (first | exact (Kd.C_below HR0.out HB.out) | (with_reducible refine Kd.C_alloc ?_ _) | (with_reducible refine Kd.C_drewN ?_ _) | (with_reducible refine Kd.C_drew ?_))); (case side2 => exact HC0.out); rintro e w' ⟨rfl, ⟨nd, rfl⟩⟩; refine ⟨_, rfl, ?_⟩) | (go_at_call 142; (with_reducible refine (spec_l2Order.calls k _ _ l1 false _ ?side1 ?side2 A8.out).mono ?_); (case side1 => repeat (first | exact (Kd.C_below HR1.out (by repeat (first | (with_reducible first | exact HB.out | apply below_alloc | apply pw_below_drewN | apply below_drew1) | exact HB.out))) | (with_reducible refine Kd.C_alloc ?_ _) | (with_reducible refine Kd.C_drewN ?_ _) | (with_reducible refine Kd.C_drew ?_))); (case side2 => exact HC1.out); rintro e w' ⟨rfl, ⟨nd, rfl⟩⟩))
        go_meet
        case rel => exact ⟨_, (true), (by first | rfl | (simp; done) | (simp [*]; done)), H', ⟨by first | omega | exact Nat.le_refl _⟩, ⟨by (with_reducible repeat (first | apply Kd.R_alloc | apply Kd.R_drewN | apply Kd.R_drew)); exact HO371.out⟩, ⟨by repeat (first | (with_reducible first | exact HB.out | apply below_alloc | apply pw_below_drewN | apply below_drew1) | exact HB.out)⟩⟩
    · replace c7 := Bool.eq_false_iff.mpr c7
      subst c7
      have H1 : (spec_ComposeOrders.j0 k l0 l1 y369 true) = some (r1, r2) := by rw [if_neg (show ¬ (false = true) by decide)] at H; exact H
      clear H
      have H := H1
      clear H1
      have H' := Aside0.mk H
      clear H
      go_wp2_with (first | ((with_reducible refine gate_callee (f := 142) rfl ?_); refine goesL_ (some 10) rfl rfl Try.func142 (by kernel_rfl) rfl #[.slice A0 l0.length c0] rfl (by (try simp only [List.map_toArray, List.map_cons, List.map_nil]); first | done | rfl | (simp only [List.length_drop, List.length_take]; rfl)) ?_; (with_reducible refine (spec_l2Order.calls k _ _ l0 false _ ?side1 ?side2 A6.out).mono ?_); (case side1 => repeat (first | exact (Kd.C_below HR0.out HB.out) | (with_reducible refine Kd.C_alloc ?_ _) | (with_reducible refine Kd.C_drewN ?_ _) | (with_reducible refine Kd.C_drew ?_))); (case side2 => exact HC0.out); rintro e w' ⟨rfl, ⟨nd, rfl⟩⟩; refine ⟨_, rfl, ?_⟩))
      go_meet
      case rel => exact ⟨_, (true), (by first | rfl | (simp; done) | (simp [*]; done)), H', ⟨by first | omega | exact Nat.le_refl _⟩, ⟨by (with_reducible repeat (first | apply Kd.R_alloc | apply Kd.R_drewN | apply Kd.R_drew)); exact HO371.out⟩, ⟨by repeat (first | (with_reducible first | exact HB.out | apply below_alloc | apply pw_below_drewN | apply below_drew1) | exact HB.out)⟩⟩
  case rest =>
    clear HC3
    try clear c1
    try clear p2
    try clear c6
    try clear c7
    try clear c9
    obtain ⟨kq, x23_2, rfl, HA, HJ2, HO_6, HB⟩ := hcut
    cases kq with
    | zero => exact absurd HA.out (by simp [spec_ComposeOrders.j0])
    | succ kj2 =>
      have H := HA.out
      clear HA
      simp only [spec_ComposeOrders.j0] at H
      by_cases c10 : x23_2 = true
      · subst c10
        have H1 : (some (y369, false)) = some (r1, r2) := by rw [if_pos rfl] at H; exact H
        clear H
        have H := H1
        clear H1
        simp only [Option.some.injEq, Prod.mk.injEq] at H
        obtain ⟨rfl, rfl⟩ := H
        go_wp2
        go_ret2
        exact ⟨_, by first | rfl | (simp [errW_none, errW_some] <;> rfl) | (simp [*, errW_none, errW_some] <;> rfl), by (with_reducible repeat (first | apply Kd.R_alloc | apply Kd.R_drewN | apply Kd.R_drew)); exact HO_6.out, by repeat (first | (with_reducible first | exact HB.out | apply below_alloc | apply pw_below_drewN | apply below_drew1) | exact HB.out)⟩
      · replace c10 := Bool.eq_false_iff.mpr c10
        subst c10
        have H1 : (spec_ComposeOrders.l0 kj2 l0 l1 y369 0) = some (r1, r2) := by rw [if_neg (show ¬ (false = true) by decide)] at H; exact H
        clear H
        have H := H1
        clear H1
        have H' := Aside0.mk H
        clear H
        go_wp2
        go_loopg [6, 7] kj2 (fun kq v6 v7 w' => ∃ (x6_2 : List Int) (x7_2 : Int), v7 = .int .i64 x7_2 ∧ Aside0 (spec_ComposeOrders.l0 kq l0 l1 x6_2 x7_2 = some (r1, r2)) ∧ Aside0 (kq ≤ kj2) ∧ Aside0 (Kd.R (Kd.int .i64) 3 w' w.heap.size (fun _ => True) v6 x6_2) ∧ Aside0 (Below w.heap.size w w'))
        case atStart => exact ⟨(y369), (0), (by first | rfl | (simp; done) | (simp [*]; done)), H', ⟨Nat.le_refl _⟩, ⟨by (with_reducible repeat (first | apply Kd.R_alloc | apply Kd.R_drewN | apply Kd.R_drew)); exact HO_6.out⟩, ⟨by repeat (first | (with_reducible first | exact HB.out | apply below_alloc | apply pw_below_drewN | apply below_drew1) | exact HB.out)⟩⟩
        case round =>
          clear H'
          try clear c1
          try clear p2
          try clear c6
          try clear c7
          try clear c9
          try clear c10
          try clear p2
          obtain ⟨x6_2, x7_2, rfl, HA, HK2, HO_6, HB⟩ := hrel
          cases gk with
          | zero => exact absurd HA.out (by simp [spec_ComposeOrders.l0])
          | succ k2 =>
            have H := HA.out
            clear HA
            simp only [spec_ComposeOrders.l0] at H
            by_cases c11 : x7_2 < (l1.length : Int)
            · rw [if_pos c11] at H
              have c11b0 : decide (x7_2 < (l1.length : Int)) = true := decide_eq_true c11
              clear c11
              by_cases c12 : 0 ≤ x7_2
              · rw [if_pos c12] at H
                have c12b0 : decide (0 ≤ x7_2) = true := decide_eq_true c12
                clear c12
                obtain ⟨ji13, hji13⟩ : ∃ j_ : Int, (wrap64 ((rd l1 x7_2) - 1)) = j_ := ⟨_, rfl⟩
                replace H : (if 0 ≤ (ji13) then (if (ji13) < (l0.length : Int) then (if x6_2.length < 17592186044416 then (spec_ComposeOrders.l0 k2 l0 l1 (x6_2 ++ [rd l0 (ji13)]) (wrap64 (x7_2 + 1))) else (none)) else (none)) else (none)) = some (r1, r2) := by first | (rw [hji13] at H; exact H) | (simp only [hji13] at H ⊢; exact H)
                have hji13w : (IntKind.i64.wrap ((rd l1 x7_2) - 1)) = ji13 := (i64_w _).trans hji13
                by_cases c14 : 0 ≤ (ji13)
                · rw [if_pos c14] at H
                  have c14b0 : decide (0 ≤ (ji13)) = true := decide_eq_true c14
                  clear c14
                  by_cases c15 : (ji13) < (l0.length : Int)
                  · rw [if_pos c15] at H
                    have c15b0 : decide ((ji13) < (l0.length : Int)) = true := decide_eq_true c15
                    clear c15
                    by_cases c16 : x6_2.length < 17592186044416
                    · rw [if_pos c16] at H
                      have LMc16 := Aside0.mk c16
                      clear c16
                      obtain ⟨y376, hy376⟩ : ∃ y_ : List Int, y_ = (x6_2 ++ [rd l0 (ji13)]) := ⟨_, rfl⟩
                      replace H : (spec_ComposeOrders.l0 k2 l0 l1 y376 (wrap64 (x7_2 + 1))) = some (r1, r2) := by first | (rw [hy376]; with_reducible exact H) | (have H2_ := (Option.bind_some _ _).symm.trans H; rw [hy376]; with_reducible exact H2_) | (have H2_ := (Option.bind_some _ _).symm.trans H; with_reducible exact H2_) | with_reducible exact H | (rw [hy376]; exact H) | exact H
                      have Ny376 := Aside0.mk hy376
                      clear hy376
                      have H' := Aside0.mk H
                      clear H
                      have p374 : 0 ≤ (x7_2 : Int) := of_decide_eq_true (by first | (with_reducible assumption) | assumption)
                      have q374 : x7_2 < (l1.length : Int) := of_decide_eq_true (by first | (with_reducible assumption) | assumption)
                      obtain ⟨ad374, e374, hx374_0⟩ := Kd.at_int HR1.out x7_2 p374 q374
                      cases e374
                      replace hx374_0 := (HB.out.cell (World.block_lt_of_cell? w _ hx374_0)).trans hx374_0
                      replace p374 := eq_true p374
                      replace q374 := eq_true q374
                      have p375 : 0 ≤ ((ji13) : Int) := of_decide_eq_true (by first | (with_reducible assumption) | assumption)
                      have q375 : (ji13) < (l0.length : Int) := of_decide_eq_true (by first | (with_reducible assumption) | assumption)
                      obtain ⟨ad375, e375, hx375_0⟩ := Kd.at_int HR0.out (ji13) p375 q375
                      cases e375
                      replace hx375_0 := (HB.out.cell (World.block_lt_of_cell? w _ hx375_0)).trans hx375_0
                      replace p375 := eq_true p375
                      replace q375 := eq_true q375
                      go_wp2_with (first | ((with_reducible refine gate_builtin (b := .append) (xs := #[.tmp 31, .tmp 40]) rfl ?_); (try (refine gate_guard (by rfl) ?_; dsimp only)); at_builtin; refine Kd.R_append (Kd.int .i64) (w0 := w) w.heap.size rfl (.tmp 31) (.tmp 40) 22 3 (.int .i64 0) 8 rfl Try.underlying22 info3 rfl (by decide) (by omega) u6 x6_2 (rd l0 (ji13)) [.int .i64 (rd l0 (ji13))] (fun _ => True) (fun _ => False) rfl rfl ?aP (fun _ hk => hk.elim) ?aF ?aO ?aB ?aS ?aL ?_; (case aP => exact rfl); (case aB => exact (by repeat (first | (with_reducible first | exact HB.out | apply below_alloc | apply pw_below_drewN | apply below_drew1) | exact HB.out))); (case aF => exact (fun _ _ => trivial)); (case aO => exact (by (with_reducible repeat (first | apply Kd.R_alloc | apply Kd.R_drewN | apply Kd.R_drew)); exact HO_6.out)); (case aS => exact (below_size (by repeat (first | (with_reducible first | exact HB.out | apply below_alloc | apply pw_below_drewN | apply below_drew1) | exact HB.out)))); (case aL => have := LMc16.out; omega); intro v377 w17 ho hb hg hat; rw [← Ny376.out] at ho; have n0_ := Aside0.mk (hb); have n1_ := Aside0.mk (ho); clear HB; clear HO_6; have HB := n0_; have HO378 := n1_; clear n0_ n1_; clear ho hb hg hat))
                      go_roundg k2
                      case measure => have := HJ2.out; have := HK2.out; omega
                      case rel => exact ⟨(y376), (wrap64 (x7_2 + 1)), (by first | rfl | (simp; done) | (simp [*]; done)), H', ⟨by have := HJ2.out; have := HK2.out; omega⟩, ⟨by (with_reducible repeat (first | apply Kd.R_alloc | apply Kd.R_drewN | apply Kd.R_drew)); exact HO378.out⟩, ⟨by repeat (first | (with_reducible first | exact HB.out | apply below_alloc | apply pw_below_drewN | apply below_drew1) | exact HB.out)⟩⟩
                    · rw [if_neg c16] at H
                      exact absurd H (by simp)
                  · rw [if_neg c15] at H
                    exact absurd H (by simp)
                · rw [if_neg c14] at H
                  exact absurd H (by simp)
              · rw [if_neg c12] at H
                exact absurd H (by simp)
            · rw [if_neg c11] at H
              have c11b0 : decide (x7_2 < (l1.length : Int)) = false := decide_eq_false c11
              clear c11
              simp only [Option.some.injEq, Prod.mk.injEq] at H
              obtain ⟨rfl, rfl⟩ := H
              go_wp2
              go_ret2
              exact ⟨_, by first | rfl | (simp [errW_none, errW_some] <;> rfl) | (simp [*, errW_none, errW_some] <;> rfl), by (with_reducible repeat (first | apply Kd.R_alloc | apply Kd.R_drewN | apply Kd.R_drew)); exact HO_6.out, by repeat (first | (with_reducible first | exact HB.out | apply below_alloc | apply pw_below_drewN | apply below_drew1) | exact HB.out)⟩

/-! ### spec_l1Most: function 179 -/
def spec_l1Most.f (a0 : Int) (a1 : Int) : Option (Int) := if a0 > a1 then (some a0) else (some a1)
set_option maxHeartbeats 8000000 in
set_option maxRecDepth 100000 in
theorem spec_l1Most.calls (a0 : Int) (a1 : Int) (r : Int) (w : World) (h : spec_l1Most.f a0 a1 = some r) :
    Calls Try.prog 179 #[.int .i64 a0, .int .i64 a1] w fun e w' => e = .returned (.int .i64 r) ∧ Drawn0 w w' := by
  have H : (if a0 > a1 then (some a0) else (some a1)) = some r := h
  clear h
  by_cases c3 : a0 > a1
  · rw [if_pos c3] at H
    have c3b0 : decide (a1 < a0) = true := decide_eq_true c3
    clear c3
    obtain rfl := Option.some.inj H
    go_enter Try.func179, Try.ntmps179
    go_wp2
    go_ret
    exact ⟨by first | rfl | (simp; done) | (simp [*]; done), by repeat (first | exact Drawn0.refl _ | apply Drawn0.step)⟩
  · rw [if_neg c3] at H
    have c3b0 : decide (a1 < a0) = false := decide_eq_false c3
    clear c3
    obtain rfl := Option.some.inj H
    go_enter Try.func179, Try.ntmps179
    go_wp2
    go_ret
    exact ⟨by first | rfl | (simp; done) | (simp [*]; done), by repeat (first | exact Drawn0.refl _ | apply Drawn0.step)⟩

/-! ### spec_l1Least: function 196 -/
def spec_l1Least.f (a0 : Int) (a1 : Int) : Option (Int) := if a0 < a1 then (some a0) else (some a1)
set_option maxHeartbeats 8000000 in
set_option maxRecDepth 100000 in
theorem spec_l1Least.calls (a0 : Int) (a1 : Int) (r : Int) (w : World) (h : spec_l1Least.f a0 a1 = some r) :
    Calls Try.prog 196 #[.int .i64 a0, .int .i64 a1] w fun e w' => e = .returned (.int .i64 r) ∧ Drawn0 w w' := by
  have H : (if a0 < a1 then (some a0) else (some a1)) = some r := h
  clear h
  by_cases c3 : a0 < a1
  · rw [if_pos c3] at H
    have c3b0 : decide (a0 < a1) = true := decide_eq_true c3
    clear c3
    obtain rfl := Option.some.inj H
    go_enter Try.func196, Try.ntmps196
    go_wp2
    go_ret
    exact ⟨by first | rfl | (simp; done) | (simp [*]; done), by repeat (first | exact Drawn0.refl _ | apply Drawn0.step)⟩
  · rw [if_neg c3] at H
    have c3b0 : decide (a0 < a1) = false := decide_eq_false c3
    clear c3
    obtain rfl := Option.some.inj H
    go_enter Try.func196, Try.ntmps196
    go_wp2
    go_ret
    exact ⟨by first | rfl | (simp; done) | (simp [*]; done), by repeat (first | exact Drawn0.refl _ | apply Drawn0.step)⟩

/-! ### spec_DrawOrderAt: function 65 -/
def spec_DrawOrderAt.f (k : Nat) (l0 : List Int) : Option (Int × Int) := (spec_l1Cur_among.f l0 0 0 (([3, 4, 5, 2, 7, 6, 1, 0, 8] : List Int))).bind fun bt383 => ((spec_l1Least.f bt383.1 7).bind fun t386 => ((spec_l1Most.f 1 t386).bind fun t387 => ((spec_l2Ways.f k t387).bind fun t388 => ((spec_l1Cur_pick.f l0 bt383.2.1 bt383.2.2 t388).bind fun bt389 => ((spec_l1Cur_pick.f l0 bt389.2.1 bt389.2.2 24).bind fun bt392 => ((spec_l1Cur_pick.f l0 bt392.2.1 bt392.2.2 24).bind fun bt395 => (some (bt383.1, wrap64 ((wrap64 (bt389.1 - (wrap64 (Int.tdiv bt392.1 23)))) + (wrap64 (Int.tdiv bt395.1 23)))))))))))
theorem spec_DrawOrderAt.mono : ∀ a0 k, LeO (spec_DrawOrderAt.f k a0) (spec_DrawOrderAt.f (k + 1) a0) := by
  intro a0 k
  unfold spec_DrawOrderAt.f
  repeat' first
      | (with_reducible exact spec_l2Ways.mono _ _)
      | (with_reducible exact LeO.refl _)
      | (with_reducible exact LeO.none _)
      | (with_reducible refine LeO.ite ?_ ?_)
      | (with_reducible refine LeO.bind ?_ (fun _ => ?_))
      | exact spec_l2Ways.mono _ _
      | exact LeO.none _
      | refine LeO.ite ?_ ?_
      | refine LeO.bind ?_ (fun _ => ?_)
set_option maxHeartbeats 8000000 in
set_option maxRecDepth 100000 in
theorem spec_DrawOrderAt.calls (k : Nat) (A0 : Option Addr) (c0 : Nat) (l0 : List Int) (r1 : Int) (r2 : Int) (w : World) (hr0 : Kd.C (Kd.int .u8) w A0 l0.length l0) (hc0 : l0.length ≤ c0) (h : spec_DrawOrderAt.f k l0 = some (r1, r2)) :
    Calls Try.prog 65 #[.slice A0 l0.length c0] w fun e w' => e = .returned (.tuple #[.int .i64 r1, .int .i64 r2]) ∧ Below w.heap.size w w' := by
  have hu102 := Try.underlying102
  have HR0 := Aside0.mk hr0
  have HC0 := Aside0.mk hc0
  clear hr0 hc0
  have HB := Aside0.mk (Below.refl w.heap.size w)
  have H : ((spec_l1Cur_among.f l0 0 0 (([3, 4, 5, 2, 7, 6, 1, 0, 8] : List Int))).bind fun bt383 => ((spec_l1Least.f bt383.1 7).bind fun t386 => ((spec_l1Most.f 1 t386).bind fun t387 => ((spec_l2Ways.f k t387).bind fun t388 => ((spec_l1Cur_pick.f l0 bt383.2.1 bt383.2.2 t388).bind fun bt389 => ((spec_l1Cur_pick.f l0 bt389.2.1 bt389.2.2 24).bind fun bt392 => ((spec_l1Cur_pick.f l0 bt392.2.1 bt392.2.2 24).bind fun bt395 => (some (bt383.1, wrap64 ((wrap64 (bt389.1 - (wrap64 (Int.tdiv bt392.1 23)))) + (wrap64 (Int.tdiv bt395.1 23)))))))))))) = some (r1, r2) := h
  clear h
  obtain ⟨y380, hy380⟩ : ∃ y_ : List Int, y_ = (([3, 4, 5, 2, 7, 6, 1, 0, 8] : List Int)) := ⟨_, rfl⟩
  replace H : ((spec_l1Cur_among.f l0 0 0 y380).bind fun bt383 => ((spec_l1Least.f bt383.1 7).bind fun t386 => ((spec_l1Most.f 1 t386).bind fun t387 => ((spec_l2Ways.f k t387).bind fun t388 => ((spec_l1Cur_pick.f l0 bt383.2.1 bt383.2.2 t388).bind fun bt389 => ((spec_l1Cur_pick.f l0 bt389.2.1 bt389.2.2 24).bind fun bt392 => ((spec_l1Cur_pick.f l0 bt392.2.1 bt392.2.2 24).bind fun bt395 => (some (bt383.1, wrap64 ((wrap64 (bt389.1 - (wrap64 (Int.tdiv bt392.1 23)))) + (wrap64 (Int.tdiv bt395.1 23)))))))))))) = some (r1, r2) := by first | (rw [hy380]; with_reducible exact H) | (have H2_ := (Option.bind_some _ _).symm.trans H; rw [hy380]; with_reducible exact H2_) | (have H2_ := (Option.bind_some _ _).symm.trans H; with_reducible exact H2_) | with_reducible exact H | (rw [hy380]; exact H) | exact H
  have Ny380 := Aside0.mk hy380
  clear hy380
  replace H := Option.bind_eq_some_iff.mp H
  obtain ⟨⟨t383, t384, t385⟩, A20, H⟩ := H
  replace H : ((spec_l1Least.f t383 7).bind fun t386 => ((spec_l1Most.f 1 t386).bind fun t387 => ((spec_l2Ways.f k t387).bind fun t388 => ((spec_l1Cur_pick.f l0 t384 t385 t388).bind fun bt389 => ((spec_l1Cur_pick.f l0 bt389.2.1 bt389.2.2 24).bind fun bt392 => ((spec_l1Cur_pick.f l0 bt392.2.1 bt392.2.2 24).bind fun bt395 => (some (t383, wrap64 ((wrap64 (bt389.1 - (wrap64 (Int.tdiv bt392.1 23)))) + (wrap64 (Int.tdiv bt395.1 23))))))))))) = some (r1, r2) := H
  have A2 := Aside0.mk A20
  clear A20
  replace H := Option.bind_eq_some_iff.mp H
  obtain ⟨t386, A30, H⟩ := H
  replace H : ((spec_l1Most.f 1 t386).bind fun t387 => ((spec_l2Ways.f k t387).bind fun t388 => ((spec_l1Cur_pick.f l0 t384 t385 t388).bind fun bt389 => ((spec_l1Cur_pick.f l0 bt389.2.1 bt389.2.2 24).bind fun bt392 => ((spec_l1Cur_pick.f l0 bt392.2.1 bt392.2.2 24).bind fun bt395 => (some (t383, wrap64 ((wrap64 (bt389.1 - (wrap64 (Int.tdiv bt392.1 23)))) + (wrap64 (Int.tdiv bt395.1 23)))))))))) = some (r1, r2) := H
  have A3 := Aside0.mk A30
  clear A30
  replace H := Option.bind_eq_some_iff.mp H
  obtain ⟨t387, A40, H⟩ := H
  replace H : ((spec_l2Ways.f k t387).bind fun t388 => ((spec_l1Cur_pick.f l0 t384 t385 t388).bind fun bt389 => ((spec_l1Cur_pick.f l0 bt389.2.1 bt389.2.2 24).bind fun bt392 => ((spec_l1Cur_pick.f l0 bt392.2.1 bt392.2.2 24).bind fun bt395 => (some (t383, wrap64 ((wrap64 (bt389.1 - (wrap64 (Int.tdiv bt392.1 23)))) + (wrap64 (Int.tdiv bt395.1 23))))))))) = some (r1, r2) := H
  have A4 := Aside0.mk A40
  clear A40
  replace H := Option.bind_eq_some_iff.mp H
  obtain ⟨t388, A50, H⟩ := H
  replace H : ((spec_l1Cur_pick.f l0 t384 t385 t388).bind fun bt389 => ((spec_l1Cur_pick.f l0 bt389.2.1 bt389.2.2 24).bind fun bt392 => ((spec_l1Cur_pick.f l0 bt392.2.1 bt392.2.2 24).bind fun bt395 => (some (t383, wrap64 ((wrap64 (bt389.1 - (wrap64 (Int.tdiv bt392.1 23)))) + (wrap64 (Int.tdiv bt395.1 23)))))))) = some (r1, r2) := H
  have A5 := Aside0.mk A50
  clear A50
  replace H := Option.bind_eq_some_iff.mp H
  obtain ⟨⟨t389, t390, t391⟩, A60, H⟩ := H
  replace H : ((spec_l1Cur_pick.f l0 t390 t391 24).bind fun bt392 => ((spec_l1Cur_pick.f l0 bt392.2.1 bt392.2.2 24).bind fun bt395 => (some (t383, wrap64 ((wrap64 (t389 - (wrap64 (Int.tdiv bt392.1 23)))) + (wrap64 (Int.tdiv bt395.1 23))))))) = some (r1, r2) := H
  have A6 := Aside0.mk A60
  clear A60
  replace H := Option.bind_eq_some_iff.mp H
  obtain ⟨⟨t392, t393, t394⟩, A70, H⟩ := H
  replace H : ((spec_l1Cur_pick.f l0 t393 t394 24).bind fun bt395 => (some (t383, wrap64 ((wrap64 (t389 - (wrap64 (Int.tdiv t392 23)))) + (wrap64 (Int.tdiv bt395.1 23)))))) = some (r1, r2) := H
  have A7 := Aside0.mk A70
  clear A70
  replace H := Option.bind_eq_some_iff.mp H
  obtain ⟨⟨t395, t396, t397⟩, A80, H⟩ := H
  replace H : (some (t383, wrap64 ((wrap64 (t389 - (wrap64 (Int.tdiv t392 23)))) + (wrap64 (Int.tdiv t395 23))))) = some (r1, r2) := H
  have A8 := Aside0.mk A80
  clear A80
  simp only [Option.some.injEq, Prod.mk.injEq] at H
  obtain ⟨rfl, rfl⟩ := H
  go_enter Try.func65, Try.ntmps65
  go_wp2_with (first | ((with_reducible refine gate_dst (N := 8) rfl ?_); refine box_event ?hg (N := 8) ?hd (cs := #[.slice A0 l0.length c0, .int .i64 0, .int .u64 0]) (t := 102) ?hr ?_; (case hd => rfl); (case hg => rfl); (case hr => first | (go_simp; done) | (go_simp; rfl)); intro gb379 hg w9 hbox hb; have n0_ := Aside0.mk (below_step (by repeat (first | (with_reducible first | exact HB.out | apply below_alloc | apply pw_below_drewN | apply below_drew1) | exact HB.out)) hb); have n1_ := Aside0.mk ((⟨_, _, hbox, (by rw [hg]; exact (below_size (by repeat (first | (with_reducible first | exact HB.out | apply below_alloc | apply pw_below_drewN | apply below_drew1) | exact HB.out))) : w.heap.size ≤ gb379), HR0.out⟩ : IsS102 w _ gb379 l0 0 0)); have n2_ := Aside0.mk ((by rw [hg]; exact (below_size (by repeat (first | (with_reducible first | exact HB.out | apply below_alloc | apply pw_below_drewN | apply below_drew1) | exact HB.out))) : w.heap.size ≤ gb379)); have n3_ := Aside0.mk ((by rw [hg]; exact (below_size (by repeat (first | (with_reducible first | exact HB.out | apply below_alloc | apply pw_below_drewN | apply below_drew1) | exact HB.out))) : w.heap.size ≤ gb379)); clear HB; have HB := n0_; have HI379 := n1_; have GW379 := n2_; have GE379 := n3_; clear n0_ n1_ n2_ n3_; clear hb hbox hg) | ((with_reducible refine gate_dst (N := 10) rfl ?_); refine Kd.R_lit (Kd.int .i64) _ 3 ?hg (N := 10) ?hd (xs := ([3, 4, 5, 2, 7, 6, 1, 0, 8] : List Int)) (inner := [.int .i64 3, .int .i64 4, .int .i64 5, .int .i64 2, .int .i64 7, .int .i64 6, .int .i64 1, .int .i64 0, .int .i64 8]) (ok := fun _ => True) (okp := fun _ => True) ?hr ?hp (fun _ hk => hk) trivial (Below.refl _ _) (Nat.le_refl _) (by simp) ?_; (case hd => rfl); (case hg => rfl); (case hr => first | (go_simp; done) | (go_simp; rfl)); (case hp => exact (Reps.one (show Kd.M (Kd.int .i64) _ _ _ 3 [.int .i64 3] from rfl) (Reps.one (show Kd.M (Kd.int .i64) _ _ _ 4 [.int .i64 4] from rfl) (Reps.one (show Kd.M (Kd.int .i64) _ _ _ 5 [.int .i64 5] from rfl) (Reps.one (show Kd.M (Kd.int .i64) _ _ _ 2 [.int .i64 2] from rfl) (Reps.one (show Kd.M (Kd.int .i64) _ _ _ 7 [.int .i64 7] from rfl) (Reps.one (show Kd.M (Kd.int .i64) _ _ _ 6 [.int .i64 6] from rfl) (Reps.one (show Kd.M (Kd.int .i64) _ _ _ 1 [.int .i64 1] from rfl) (Reps.one (show Kd.M (Kd.int .i64) _ _ _ 0 [.int .i64 0] from rfl) (Reps.one (show Kd.M (Kd.int .i64) _ _ _ 8 [.int .i64 8] from rfl) (Reps.none _ _))))))))))); intro v381 w10 ho11 hb hg_ hnew_; clear hg_ hnew_; (first | rw [← Ny380.out] at ho11 | (simp only [Int.reduceToNat] at ho11; rw [← Ny380.out] at ho11)); have n0_ := Aside0.mk (Kd.R_lower ho11 (below_size (by repeat (first | (with_reducible first | exact HB.out | apply below_alloc | apply pw_below_drewN | apply below_drew1 | refine below_set ?_ (IsS102.ge HI379.out)) | exact HB.out)))); have n1_ := Aside0.mk (IsS102.below (by repeat (first | (with_reducible first | exact HI379.out | apply IsS102.alloc | apply IsS102.drewN | apply IsS102.drew | apply IsS102.set_1 | apply IsS102.set_2) | exact HI379.out)) hb); have n2_ := Aside0.mk (below_step (by repeat (first | (with_reducible first | exact HB.out | apply below_alloc | apply pw_below_drewN | apply below_drew1 | refine below_set ?_ (IsS102.ge HI379.out)) | exact HB.out)) hb); clear HI379; clear HB; have HO382 := n0_; have HI379 := n1_; have HB := n2_; clear n0_ n1_ n2_; clear hb ho11; obtain ⟨Ao12, co12, eo12⟩ := Kd.R_slice HO382.out; subst eo12) | ((with_reducible refine gate_callee (f := 195) rfl ?_); refine goesL_ (some 11) rfl rfl Try.func195 (by kernel_rfl) rfl #[.pointer (some ⟨gb379, 0, none⟩), .slice Ao12 y380.length co12] rfl (by (try simp only [List.map_toArray, List.map_cons, List.map_nil]); first | done | rfl | (simp only [List.length_drop, List.length_take]; rfl)) ?_; (with_reducible refine (spec_l1Cur_among.calls gb379 l0 0 0 _ _ y380 t383 t384 t385 w _ ?side1 ?side2 ?side3 ?side4 ?side5 A2.out).mono ?_); (case side1 => repeat (first | (with_reducible first | exact HI379.out | apply IsS102.alloc | apply IsS102.drewN | apply IsS102.drew | apply IsS102.set_1 | apply IsS102.set_2) | exact HI379.out)); (case side2 => repeat (first | (with_reducible first | exact HB.out | apply below_alloc | apply pw_below_drewN | apply below_drew1 | refine below_set ?_ (IsS102.ge HI379.out)) | exact HB.out)); (case side3 => repeat (first | exact (Kd.R_reads' HO382.out).2.2 | (with_reducible refine Kd.C_alloc ?_ _) | (with_reducible refine Kd.C_drewN ?_ _) | (with_reducible refine Kd.C_drew ?_))); (case side4 => exact (Kd.R_reads' HO382.out).2.1); (case side5 => exact far_slice (IsS102.own_ne HI379.out HO382.out (by decide))); rintro e w13 ⟨rfl, hi, hb, hk⟩; refine ⟨_, rfl, ?_⟩; have n0_ := Aside0.mk (Kd.R_mono (Kd.R_keep (IsS102.apart (show IsS102 w _ gb379 l0 0 0 from by repeat (first | (with_reducible first | exact HI379.out | apply IsS102.alloc | apply IsS102.drewN | apply IsS102.drew | apply IsS102.set_1 | apply IsS102.set_2) | exact HI379.out)) (by (with_reducible repeat (first | apply Kd.R_alloc | apply Kd.R_drewN | apply Kd.R_drew)); exact HO382.out) (by decide)) hk (fun _ h => h.2)) (fun _ h => h.1)); have n1_ := Aside0.mk (hb); have n2_ := Aside0.mk (hi); clear HO382; clear HB; clear HI379; have HO382 := n0_; have HB := n1_; have HI379 := n2_; clear n0_ n1_ n2_; (try clear hb); (try clear hb2); (try clear hk); (try clear hi)) | ((with_reducible refine gate_callee (f := 196) rfl ?_); refine goesL_ (some 15) rfl rfl Try.func196 (by kernel_rfl) rfl #[.int .i64 t383, .int .i64 7] rfl (by (try simp only [List.map_toArray, List.map_cons, List.map_nil]); first | done | rfl | (simp only [List.length_drop, List.length_take]; rfl)) ?_; (with_reducible refine (spec_l1Least.calls t383 7 t386 _ A3.out).mono ?_); rintro e w' ⟨rfl, ⟨nd, rfl⟩⟩; refine ⟨_, rfl, ?_⟩) | ((with_reducible refine gate_callee (f := 179) rfl ?_); refine goesL_ (some 16) rfl rfl Try.func179 (by kernel_rfl) rfl #[.int .i64 1, .int .i64 t386] rfl (by (try simp only [List.map_toArray, List.map_cons, List.map_nil]); first | done | rfl | (simp only [List.length_drop, List.length_take]; rfl)) ?_; (with_reducible refine (spec_l1Most.calls 1 t386 t387 _ A4.out).mono ?_); rintro e w' ⟨rfl, ⟨nd, rfl⟩⟩; refine ⟨_, rfl, ?_⟩) | ((with_reducible refine gate_callee (f := 193) rfl ?_); refine goesL_ (some 17) rfl rfl Try.func193 (by kernel_rfl) rfl #[.int .i64 t387] rfl (by (try simp only [List.map_toArray, List.map_cons, List.map_nil]); first | done | rfl | (simp only [List.length_drop, List.length_take]; rfl)) ?_; (with_reducible refine (spec_l2Ways.calls k t387 t388 _ A5.out).mono ?_); rintro e w' ⟨rfl, ⟨nd, rfl⟩⟩; refine ⟨_, rfl, ?_⟩) | ((with_reducible refine gate_callee (f := 192) rfl ?_); refine goesL_ (some 18) rfl rfl Try.func192 (by kernel_rfl) rfl #[.pointer (some ⟨gb379, 0, none⟩), .int .i64 t388] rfl (by (try simp only [List.map_toArray, List.map_cons, List.map_nil]); first | done | rfl | (simp only [List.length_drop, List.length_take]; rfl)) ?_; (with_reducible refine (spec_l1Cur_pick.calls gb379 l0 t384 t385 t388 t389 t390 t391 w _ ?side1 ?side2 A6.out).mono ?_); (case side1 => repeat (first | (with_reducible first | exact HI379.out | apply IsS102.alloc | apply IsS102.drewN | apply IsS102.drew | apply IsS102.set_1 | apply IsS102.set_2) | exact HI379.out)); (case side2 => repeat (first | (with_reducible first | exact HB.out | apply below_alloc | apply pw_below_drewN | apply below_drew1 | refine below_set ?_ (IsS102.ge HI379.out)) | exact HB.out)); rintro e w14 ⟨rfl, hi, hb, hk⟩; refine ⟨_, rfl, ?_⟩; have n0_ := Aside0.mk (Kd.R_mono (Kd.R_keep (IsS102.apart (show IsS102 w _ gb379 l0 t384 t385 from by repeat (first | (with_reducible first | exact HI379.out | apply IsS102.alloc | apply IsS102.drewN | apply IsS102.drew | apply IsS102.set_1 | apply IsS102.set_2) | exact HI379.out)) (by (with_reducible repeat (first | apply Kd.R_alloc | apply Kd.R_drewN | apply Kd.R_drew)); exact HO382.out) (by decide)) hk (fun _ h => h.2)) (fun _ h => h.1)); have n1_ := Aside0.mk (hb); have n2_ := Aside0.mk (hi); clear HO382; clear HB; clear HI379; have HO382 := n0_; have HB := n1_; have HI379 := n2_; clear n0_ n1_ n2_; (try clear hb); (try clear hb2); (try clear hk); (try clear hi)) | ((with_reducible refine gate_callee (f := 192) rfl ?_); refine goesL_ (some 20) rfl rfl Try.func192 (by kernel_rfl) rfl #[.pointer (some ⟨gb379, 0, none⟩), .int .i64 24] rfl (by (try simp only [List.map_toArray, List.map_cons, List.map_nil]); first | done | rfl | (simp only [List.length_drop, List.length_take]; rfl)) ?_; (with_reducible refine (spec_l1Cur_pick.calls gb379 l0 t390 t391 24 t392 t393 t394 w _ ?side1 ?side2 A7.out).mono ?_); (case side1 => repeat (first | (with_reducible first | exact HI379.out | apply IsS102.alloc | apply IsS102.drewN | apply IsS102.drew | apply IsS102.set_1 | apply IsS102.set_2) | exact HI379.out)); (case side2 => repeat (first | (with_reducible first | exact HB.out | apply below_alloc | apply pw_below_drewN | apply below_drew1 | refine below_set ?_ (IsS102.ge HI379.out)) | exact HB.out)); rintro e w15 ⟨rfl, hi, hb, hk⟩; refine ⟨_, rfl, ?_⟩; have n0_ := Aside0.mk (Kd.R_mono (Kd.R_keep (IsS102.apart (show IsS102 w _ gb379 l0 t390 t391 from by repeat (first | (with_reducible first | exact HI379.out | apply IsS102.alloc | apply IsS102.drewN | apply IsS102.drew | apply IsS102.set_1 | apply IsS102.set_2) | exact HI379.out)) (by (with_reducible repeat (first | apply Kd.R_alloc | apply Kd.R_drewN | apply Kd.R_drew)); exact HO382.out) (by decide)) hk (fun _ h => h.2)) (fun _ h => h.1)); have n1_ := Aside0.mk (hb); have n2_ := Aside0.mk (hi); clear HO382; clear HB; clear HI379; have HO382 := n0_; have HB := n1_; have HI379 := n2_; clear n0_ n1_ n2_; (try clear hb); (try clear hb2); (try clear hk); (try clear hi)) | ((with_reducible refine gate_callee (f := 192) rfl ?_); refine goesL_ (some 24) rfl rfl Try.func192 (by kernel_rfl) rfl #[.pointer (some ⟨gb379, 0, none⟩), .int .i64 24] rfl (by (try simp only [List.map_toArray, List.map_cons, List.map_nil]); first | done | rfl | (simp only [List.length_drop, List.length_take]; rfl)) ?_; (with_reducible refine (spec_l1Cur_pick.calls gb379 l0 t393 t394 24 t395 t396 t397 w _ ?side1 ?side2 A8.out).mono ?_); (case side1 => repeat (first | (with_reducible first | exact HI379.out | apply IsS102.alloc | apply IsS102.drewN | apply IsS102.drew | apply IsS102.set_1 | apply IsS102.set_2) | exact HI379.out)); (case side2 => repeat (first | (with_reducible first | exact HB.out | apply below_alloc | apply pw_below_drewN | apply below_drew1 | refine below_set ?_ (IsS102.ge HI379.out)) | exact HB.out)); rintro e w16 ⟨rfl, hi, hb, hk⟩; refine ⟨_, rfl, ?_⟩; have n0_ := Aside0.mk (Kd.R_mono (Kd.R_keep (IsS102.apart (show IsS102 w _ gb379 l0 t393 t394 from by repeat (first | (with_reducible first | exact HI379.out | apply IsS102.alloc | apply IsS102.drewN | apply IsS102.drew | apply IsS102.set_1 | apply IsS102.set_2) | exact HI379.out)) (by (with_reducible repeat (first | apply Kd.R_alloc | apply Kd.R_drewN | apply Kd.R_drew)); exact HO382.out) (by decide)) hk (fun _ h => h.2)) (fun _ h => h.1)); have n1_ := Aside0.mk (hb); have n2_ := Aside0.mk (hi); clear HO382; clear HB; clear HI379; have HO382 := n0_; have HB := n1_; have HI379 := n2_; clear n0_ n1_ n2_; (try clear hb); (try clear hb2); (try clear hk); (try clear hi)))
  go_ret2
  exact ⟨by first | rfl | (simp [errW_none, errW_some] <;> rfl) | (simp [*, errW_none, errW_some] <;> rfl), by repeat (first | (with_reducible first | exact HB.out | apply below_alloc | apply pw_below_drewN | apply below_drew1 | refine below_set ?_ (IsS102.ge HI379.out)) | exact HB.out)⟩

/-! ### impl_isSize: function 158 -/
def impl_isSize.f (a0 : Int) : Option (Bool) := if a0 ≥ 1 then (some (decide (a0 ≤ 7))) else (some false)
set_option maxHeartbeats 8000000 in
set_option maxRecDepth 100000 in
theorem impl_isSize.calls (a0 : Int) (r : Bool) (w : World) (h : impl_isSize.f a0 = some r) :
    Calls Try.prog 158 #[.int .i64 a0] w fun e w' => e = .returned (.bool r) ∧ Drawn0 w w' := by
  have H : (if a0 ≥ 1 then (some (decide (a0 ≤ 7))) else (some false)) = some r := h
  clear h
  by_cases c2 : a0 ≥ 1
  · rw [if_pos c2] at H
    have c2b0 : decide (1 ≤ a0) = true := decide_eq_true c2
    clear c2
    obtain rfl := Option.some.inj H
    go_enter Try.func158, Try.ntmps158
    go_wp2
    go_ret
    exact ⟨by first | rfl | (simp; done) | (simp [*]; done), by repeat (first | exact Drawn0.refl _ | apply Drawn0.step)⟩
  · rw [if_neg c2] at H
    have c2b0 : decide (1 ≤ a0) = false := decide_eq_false c2
    clear c2
    obtain rfl := Option.some.inj H
    go_enter Try.func158, Try.ntmps158
    go_wp2
    go_ret
    exact ⟨by first | rfl | (simp; done) | (simp [*]; done), by repeat (first | exact Drawn0.refl _ | apply Drawn0.step)⟩

/-! ### impl_orderAt: function 197 -/
def impl_orderAt.l0 : Nat → Int → List Int → List Int → Option (List Int)
  | 0, _, _, _ => none
  | k + 1, x1, x5, x6 => if (x5.length : Int) > 0 then ((impl_factorial.f k (wrap64 ((x5.length : Int) - 1))).bind fun t404 => (if t404 = 0 then (none) else (if 0 ≤ (wrap64 (Int.tdiv x1 t404)) then (if (wrap64 (Int.tdiv x1 t404)) < (x5.length : Int) then (if x6.length < 17592186044416 then ((slices_Delete_int_int.f x5 (wrap64 (Int.tdiv x1 t404)) (wrap64 ((wrap64 (Int.tdiv x1 t404)) + 1))).bind fun t409 => (impl_orderAt.l0 k (Int.tmod x1 t404) t409 (x6 ++ [rd x5 (wrap64 (Int.tdiv x1 t404))]))) else (none)) else (none)) else (none)))) else (some x6)
def impl_orderAt.f (k : Nat) (a0 : Int) (a1 : Int) : Option (List Int) := (impl_sorted.f k a0).bind fun t398 => (impl_orderAt.l0 k a1 t398 (([] : List Int)))
theorem impl_orderAt.mono_l : ∀ k, (∀ y0 y1 y2, LeO (impl_orderAt.l0 k y0 y1 y2) (impl_orderAt.l0 (k + 1) y0 y1 y2))
  | 0 => fun _ _ _ r h => by simp [impl_orderAt.l0] at h
  | k + 1 => by
    have ih0 := impl_orderAt.mono_l k
    · intro y0 y1 y2
      unfold impl_orderAt.l0
      repeat' first
      | (with_reducible exact ih0 _ _ _)
      | (with_reducible exact impl_factorial.mono _ _)
      | (with_reducible exact impl_sorted.mono _ _)
      | (with_reducible exact LeO.refl _)
      | (with_reducible exact LeO.none _)
      | (with_reducible refine LeO.ite ?_ ?_)
      | (with_reducible refine LeO.bind ?_ (fun _ => ?_))
      | exact ih0 _ _ _
      | exact impl_factorial.mono _ _
      | exact impl_sorted.mono _ _
      | exact LeO.none _
      | refine LeO.ite ?_ ?_
      | refine LeO.bind ?_ (fun _ => ?_)
theorem impl_orderAt.mono : ∀ a0 a1 k, LeO (impl_orderAt.f k a0 a1) (impl_orderAt.f (k + 1) a0 a1) := by
  intro a0 a1 k
  have ih0 := impl_orderAt.mono_l k
  unfold impl_orderAt.f
  repeat' first
      | (with_reducible exact ih0 _ _ _)
      | (with_reducible exact impl_factorial.mono _ _)
      | (with_reducible exact impl_sorted.mono _ _)
      | (with_reducible exact LeO.refl _)
      | (with_reducible exact LeO.none _)
      | (with_reducible refine LeO.ite ?_ ?_)
      | (with_reducible refine LeO.bind ?_ (fun _ => ?_))
      | exact ih0 _ _ _
      | exact impl_factorial.mono _ _
      | exact impl_sorted.mono _ _
      | exact LeO.none _
      | refine LeO.ite ?_ ?_
      | refine LeO.bind ?_ (fun _ => ?_)
set_option maxHeartbeats 8000000 in
set_option maxRecDepth 100000 in
theorem impl_orderAt.calls (k : Nat) (a0 : Int) (a1 : Int) (r : List Int) (w : World) (h : impl_orderAt.f k a0 a1 = some r) :
    Calls Try.prog 197 #[.int .i64 a0, .int .i64 a1] w fun e w' => ∃ v0_ : Value, e = .returned (v0_) ∧ Kd.R (Kd.int .i64) 3 w' w.heap.size (fun _ => True) v0_ r ∧ Below w.heap.size w w' := by
  have HB := Aside0.mk (Below.refl w.heap.size w)
  have H : ((impl_sorted.f k a0).bind fun t398 => (impl_orderAt.l0 k a1 t398 (([] : List Int)))) = some r := h
  clear h
  replace H := Option.bind_eq_some_iff.mp H
  obtain ⟨t398, A30, H⟩ := H
  replace H : (impl_orderAt.l0 k a1 t398 (([] : List Int))) = some r := H
  have A3 := Aside0.mk A30
  clear A30
  obtain ⟨y401, hy401⟩ : ∃ y_ : List Int, y_ = (([] : List Int)) := ⟨_, rfl⟩
  replace H : (impl_orderAt.l0 k a1 t398 y401) = some r := by first | (rw [hy401]; with_reducible exact H) | (have H2_ := (Option.bind_some _ _).symm.trans H; rw [hy401]; with_reducible exact H2_) | (have H2_ := (Option.bind_some _ _).symm.trans H; with_reducible exact H2_) | with_reducible exact H | (rw [hy401]; exact H) | exact H
  have Ny401 := Aside0.mk hy401
  clear hy401
  have H' := Aside0.mk H
  clear H
  go_enter Try.func197, Try.ntmps197
  go_wp2_with (first | ((with_reducible refine gate_callee (f := 183) rfl ?_); refine goesL_ (some 10) rfl rfl Try.func183 (by kernel_rfl) rfl #[.int .i64 a0] rfl (by (try simp only [List.map_toArray, List.map_cons, List.map_nil]); first | done | rfl | (simp only [List.length_drop, List.length_take]; rfl)) ?_; (with_reducible refine (impl_sorted.calls k a0 t398 _ A3.out).mono ?_); rintro e w4 ⟨v399, rfl, ho0, hb⟩; refine ⟨_, rfl, ?_⟩; have n0_ := Aside0.mk (Kd.R_lower ho0 (below_size (by repeat (first | (with_reducible first | exact HB.out | apply below_alloc | apply pw_below_drewN | apply below_drew1) | exact HB.out)))); have n1_ := Aside0.mk (below_step (by repeat (first | (with_reducible first | exact HB.out | apply below_alloc | apply pw_below_drewN | apply below_drew1) | exact HB.out)) hb); clear HB; have HO400 := n0_; have HB := n1_; clear n0_ n1_; (try clear hb); (try clear hb2); (try clear hk); (try clear hi); (try clear ho0)) | ((with_reducible refine gate_dst (N := 11) rfl ?_); refine Kd.R_lit (Kd.int .i64) _ 3 ?hg (N := 11) ?hd (xs := ([] : List Int)) (inner := []) (ok := fun _ => True) (okp := fun _ => True) ?hr ?hp (fun _ hk => hk) trivial (Below.refl _ _) (Nat.le_refl _) (by simp) ?_; (case hd => rfl); (case hg => rfl); (case hr => first | (go_simp; done) | (go_simp; rfl)); (case hp => exact (Reps.none _ _)); intro v402 w5 ho6 hb hg_ hnew_; clear hg_ hnew_; (first | rw [← Ny401.out] at ho6 | (simp only [Int.reduceToNat] at ho6; rw [← Ny401.out] at ho6)); have n0_ := Aside0.mk (Kd.R_elder' (by (with_reducible repeat (first | apply Kd.R_alloc | apply Kd.R_drewN | apply Kd.R_drew)); exact HO400.out) (Kd.R_base ho6) hb); have n1_ := Aside0.mk (Kd.R_lower (Kd.R_new' ho6 (Kd.R_lt (by (with_reducible repeat (first | apply Kd.R_alloc | apply Kd.R_drewN | apply Kd.R_drew)); exact HO400.out))) (below_size (by repeat (first | (with_reducible first | exact HB.out | apply below_alloc | apply pw_below_drewN | apply below_drew1) | exact HB.out)))); have n2_ := Aside0.mk (below_step (by repeat (first | (with_reducible first | exact HB.out | apply below_alloc | apply pw_below_drewN | apply below_drew1) | exact HB.out)) hb); clear HO400; clear HB; have HO400 := n0_; have HO403 := n1_; have HB := n2_; clear n0_ n1_ n2_; clear hb ho6))
  go_loopg [1, 5, 6] k (fun kq v1 v5 v6 w' => ∃ (x1_1 : Int) (x5_1 : List Int) (x6_1 : List Int), v1 = .int .i64 x1_1 ∧ Aside0 (impl_orderAt.l0 kq x1_1 x5_1 x6_1 = some r) ∧ Aside0 (kq ≤ k) ∧ Aside0 (Kd.R (Kd.int .i64) 3 w' w.heap.size (fun k_ => some k_ ≠ (v6 : Value).ownBlock) v5 x5_1) ∧ Aside0 (Kd.R (Kd.int .i64) 3 w' w.heap.size (fun k_ => some k_ ≠ (v5 : Value).ownBlock) v6 x6_1) ∧ Aside0 (Below w.heap.size w w'))
  case atStart => exact ⟨(a1), (t398), (y401), (by first | rfl | (simp; done) | (simp [*]; done)), H', ⟨Nat.le_refl _⟩, ⟨by (with_reducible repeat (first | apply Kd.R_alloc | apply Kd.R_drewN | apply Kd.R_drew)); exact Kd.R_mono HO400.out (fun _ hk => hk.2)⟩, ⟨by (with_reducible repeat (first | apply Kd.R_alloc | apply Kd.R_drewN | apply Kd.R_drew)); exact Kd.R_mono HO403.out (fun _ hk => hk.2)⟩, ⟨by repeat (first | (with_reducible first | exact HB.out | apply below_alloc | apply pw_below_drewN | apply below_drew1) | exact HB.out)⟩⟩
  case round =>
    clear H'
    try clear c1
    try clear p2
    obtain ⟨x1_1, x5_1, x6_1, rfl, HA, HK1, HO_5, HO_6, HB⟩ := hrel
    cases gk with
    | zero => exact absurd HA.out (by simp [impl_orderAt.l0])
    | succ k1 =>
      have H := HA.out
      clear HA
      simp only [impl_orderAt.l0] at H
      by_cases c7 : (x5_1.length : Int) > 0
      · rw [if_pos c7] at H
        have c7b0 : decide (0 < (x5_1.length : Int)) = true := decide_eq_true c7
        have c7b1 : decide (0 < x5_1.length) = true := decide_eq_true (by omega)
        have c7b9 : (0 < x5_1.length) := by omega
        clear c7
        replace H := Option.bind_eq_some_iff.mp H
        obtain ⟨t404, A80, H⟩ := H
        replace H : (if t404 = 0 then (none) else (if 0 ≤ (wrap64 (Int.tdiv x1_1 t404)) then (if (wrap64 (Int.tdiv x1_1 t404)) < (x5_1.length : Int) then (if x6_1.length < 17592186044416 then ((slices_Delete_int_int.f x5_1 (wrap64 (Int.tdiv x1_1 t404)) (wrap64 ((wrap64 (Int.tdiv x1_1 t404)) + 1))).bind fun t409 => (impl_orderAt.l0 k1 (Int.tmod x1_1 t404) t409 (x6_1 ++ [rd x5_1 (wrap64 (Int.tdiv x1_1 t404))]))) else (none)) else (none)) else (none))) = some r := H
        have A8 := Aside0.mk A80
        clear A80
        by_cases c9 : t404 = 0
        · rw [if_pos c9] at H
          exact absurd H (by simp)
        · rw [if_neg c9] at H
          have c9b0 : (t404 == 0) = false := beq_eq_false_iff_ne.mpr c9
          have c9b1 : (t404 != 0) = true := bne_iff_ne.mpr c9
          obtain ⟨ji10, hji10⟩ : ∃ j_ : Int, (wrap64 (Int.tdiv x1_1 t404)) = j_ := ⟨_, rfl⟩
          replace H : (if 0 ≤ (ji10) then (if (ji10) < (x5_1.length : Int) then (if x6_1.length < 17592186044416 then ((slices_Delete_int_int.f x5_1 (ji10) (wrap64 ((ji10) + 1))).bind fun t409 => (impl_orderAt.l0 k1 (Int.tmod x1_1 t404) t409 (x6_1 ++ [rd x5_1 (ji10)]))) else (none)) else (none)) else (none)) = some r := by first | (rw [hji10] at H; exact H) | (simp only [hji10] at H ⊢; exact H)
          (try rw [hji10] at A8)
          have hji10w : (IntKind.i64.wrap (Int.tdiv x1_1 t404)) = ji10 := (i64_w _).trans hji10
          by_cases c11 : 0 ≤ (ji10)
          · rw [if_pos c11] at H
            have c11b0 : decide (0 ≤ (ji10)) = true := decide_eq_true c11
            clear c11
            by_cases c12 : (ji10) < (x5_1.length : Int)
            · rw [if_pos c12] at H
              have c12b0 : decide ((ji10) < (x5_1.length : Int)) = true := decide_eq_true c12
              clear c12
              by_cases c13 : x6_1.length < 17592186044416
              · rw [if_pos c13] at H
                have LMc13 := Aside0.mk c13
                clear c13
                obtain ⟨y406, hy406⟩ : ∃ y_ : List Int, y_ = (x6_1 ++ [rd x5_1 (ji10)]) := ⟨_, rfl⟩
                replace H : ((slices_Delete_int_int.f x5_1 (ji10) (wrap64 ((ji10) + 1))).bind fun t409 => (impl_orderAt.l0 k1 (Int.tmod x1_1 t404) t409 y406)) = some r := by first | (rw [hy406]; with_reducible exact H) | (have H2_ := (Option.bind_some _ _).symm.trans H; rw [hy406]; with_reducible exact H2_) | (have H2_ := (Option.bind_some _ _).symm.trans H; with_reducible exact H2_) | with_reducible exact H | (rw [hy406]; exact H) | exact H
                have Ny406 := Aside0.mk hy406
                clear hy406
                replace H := Option.bind_eq_some_iff.mp H
                obtain ⟨t409, A140, H⟩ := H
                replace H : (impl_orderAt.l0 k1 (Int.tmod x1_1 t404) t409 y406) = some r := H
                have A14 := Aside0.mk A140
                clear A140
                have H' := Aside0.mk H
                clear H
                obtain ⟨Ao15, co15, eo15⟩ := Kd.R_slice HO_5.out
                subst eo15
                go_wp2_with (first | ((with_reducible refine gate_callee (f := 186) rfl ?_); refine goesL_ (some 18) rfl rfl Try.func186 (by kernel_rfl) rfl #[.int .i64 (wrap64 ((x5_1.length : Int) - 1))] rfl (by (try simp only [List.map_toArray, List.map_cons, List.map_nil]); first | done | rfl | (simp only [List.length_drop, List.length_take]; rfl)) ?_; (with_reducible refine (impl_factorial.calls k1 (wrap64 ((x5_1.length : Int) - 1)) t404 _ A8.out).mono ?_); rintro e w' ⟨rfl, ⟨nd, rfl⟩⟩; refine ⟨_, rfl, ?_⟩; have p405 : 0 ≤ ((ji10) : Int) := of_decide_eq_true (by first | (with_reducible assumption) | assumption); have q405 : (ji10) < (x5_1.length : Int) := of_decide_eq_true (by first | (with_reducible assumption) | assumption); obtain ⟨ad405, e405, hx405_0⟩ := Kd.at_int (Kd.R_reads' HO_5.out).2.2 (ji10) p405 q405; cases e405; replace p405 := eq_true p405; replace q405 := eq_true q405) | ((with_reducible refine gate_builtin (b := .append) (xs := #[.tmp 25, .tmp 30]) rfl ?_); at_builtin; refine Kd.R_append (Kd.int .i64) (w0 := w) w.heap.size rfl (.tmp 25) (.tmp 30) 22 3 (.int .i64 0) 8 rfl Try.underlying22 info3 rfl (by decide) (by omega) u6 x6_1 (rd x5_1 (ji10)) [.int .i64 (rd x5_1 (ji10))] (fun k_ => some k_ ≠ (.slice (some ad405) x5_1.length co15 : Value).ownBlock) (fun _ => False) rfl rfl ?aP (fun _ hk => hk.elim) ?aF ?aO ?aB ?aS ?aL ?_; (case aP => exact rfl); (case aB => exact (by repeat (first | (with_reducible first | exact HB.out | apply below_alloc | apply pw_below_drewN | apply below_drew1) | exact HB.out))); (case aF => exact (fun k_ hk => Kd.fresh' (Kd.R_lt (by (with_reducible repeat (first | apply Kd.R_alloc | apply Kd.R_drewN | apply Kd.R_drew)); exact HO_5.out)) k_ hk)); (case aO => exact (by (with_reducible repeat (first | apply Kd.R_alloc | apply Kd.R_drewN | apply Kd.R_drew)); exact HO_6.out)); (case aS => exact (below_size (by repeat (first | (with_reducible first | exact HB.out | apply below_alloc | apply pw_below_drewN | apply below_drew1) | exact HB.out)))); (case aL => have := LMc13.out; omega); intro v407 w16 ho hb hg hat; rw [← Ny406.out] at ho; have n0_ := Aside0.mk (Kd.R_after (ok := (fun _ => True)) (by (with_reducible repeat (first | apply Kd.R_alloc | apply Kd.R_drewN | apply Kd.R_drew)); first | exact Kd.R_mono HO_5.out (fun _ hk => ⟨trivial, hk⟩) | exact Kd.R_mono HO_5.out (fun k_ hk => by (have own_ : ∀ (A : Option Addr) (n c : Nat), (Value.slice A n c).ownBlock = A.map Addr.block := fun A n c => by cases A <;> rfl); simp only [own_] at hk ⊢; exact ⟨trivial, hk⟩)) hg hat); have n1_ := Aside0.mk (hb); have n2_ := Aside0.mk (ho); clear HO_5; clear HB; clear HO_6; have HO_5 := n0_; have HB := n1_; have HO408 := n2_; clear n0_ n1_ n2_; clear ho hb hg hat) | ((with_reducible refine gate_callee (f := 185) rfl ?_); refine goesL_ (some 36) rfl rfl Try.func185 (by kernel_rfl) rfl #[.slice (some ad405) x5_1.length co15, .int .i64 ji10, .int .i64 (wrap64 ((ji10) + 1))] rfl (by (try simp only [List.map_toArray, List.map_cons, List.map_nil]); first | done | (simp only [hji10]; rfl) | rfl | (simp only [List.length_drop, List.length_take]; rfl)) ?_; (with_reducible refine (slices_Delete_int_int.calls (fun k_ => some k_ = (.slice (some ad405) x5_1.length co15 : Value).ownBlock) (.slice (some ad405) x5_1.length co15) x5_1 ji10 (wrap64 ((ji10) + 1)) t409 w _ ?side1 ?side2 A14.out).mono ?_); (case side1 => repeat (first | (with_reducible first | exact HB.out | apply below_alloc | apply pw_below_drewN | apply below_drew1) | exact HB.out)); (case side2 => exact Kd.R_tight rfl HO_5.out); rintro e w17 ⟨v410, rfl, ho0, hb, hkp⟩; refine ⟨_, rfl, ?_⟩; have n0_ := Aside0.mk (Kd.R_mono (ok' := fun k_ => some k_ ≠ (v410 : Value).ownBlock) (Kd.R_keptB (HO408.out) hkp (fun k_ hk_ hs_ => (hk_) hs_)) (fun k_ hk_ => fun e_ => Or.elim (ho0.1 k_ e_.symm) (fun hs_ => hk_.2.1 hs_) (fun hn_ => Nat.not_le.2 hk_.2.2 hn_))); have n1_ := Aside0.mk (Kd.R_mono (ok' := fun k_ => some k_ ≠ (v407 : Value).ownBlock) ho0 (fun k_ hk_ => Or.elim hk_ (fun hs_ => fun e_ => (((HO408.out).1 k_ e_.symm)) hs_) (fun hn_ => (Kd.fresh' (Kd.R_lt (by (with_reducible repeat (first | apply Kd.R_alloc | apply Kd.R_drewN | apply Kd.R_drew)); exact HO408.out)) k_ hn_)))); have n2_ := Aside0.mk (hb); clear HO408; clear HB; clear HO_5; have HO408 := n0_; have HO411 := n1_; have HB := n2_; clear n0_ n1_ n2_; (try clear hb); (try clear hkp); (try clear ho0)))
                go_roundg k1
                case measure => have := HK1.out; omega
                case rel => exact ⟨(Int.tmod x1_1 t404), (t409), (y406), (by first | rfl | (simp; done) | (simp [*]; done)), H', ⟨by have := HK1.out; omega⟩, ⟨by (with_reducible repeat (first | apply Kd.R_alloc | apply Kd.R_drewN | apply Kd.R_drew)); exact HO411.out⟩, ⟨by (with_reducible repeat (first | apply Kd.R_alloc | apply Kd.R_drewN | apply Kd.R_drew)); exact HO408.out⟩, ⟨by repeat (first | (with_reducible first | exact HB.out | apply below_alloc | apply pw_below_drewN | apply below_drew1) | exact HB.out)⟩⟩
              · rw [if_neg c13] at H
                exact absurd H (by simp)
            · rw [if_neg c12] at H
              exact absurd H (by simp)
          · rw [if_neg c11] at H
            exact absurd H (by simp)
      · rw [if_neg c7] at H
        have c7b0 : decide (0 < (x5_1.length : Int)) = false := decide_eq_false c7
        have c7b1 : decide (0 < x5_1.length) = false := decide_eq_false (by omega)
        have c7b9 : ¬ (0 < x5_1.length) := by omega
        clear c7
        obtain rfl := Option.some.inj H
        obtain ⟨Ao18, co18, eo18⟩ := Kd.R_slice HO_5.out
        subst eo18
        go_wp2
        go_ret
        exact ⟨_, by first | rfl | (simp [errW_none, errW_some] <;> rfl) | (simp [*, errW_none, errW_some] <;> rfl), by (with_reducible repeat (first | apply Kd.R_alloc | apply Kd.R_drewN | apply Kd.R_drew)); exact Kd.R_mono HO_6.out (fun _ hk => trivial), by repeat (first | (with_reducible first | exact HB.out | apply below_alloc | apply pw_below_drewN | apply below_drew1) | exact HB.out)⟩

/-! ### impl_OrderAt: function 66 -/
def impl_OrderAt.f (k : Nat) (a0 : Int) (a1 : Int) : Option (List Int × Bool) := (impl_isSize.f a0).bind fun t412 => (if t412 = true then (if a1 < 0 then (some (([] : List Int), false)) else ((impl_factorial.f k a0).bind fun t413 => (if a1 ≥ t413 then (some (([] : List Int), false)) else ((impl_orderAt.f k a0 a1).bind fun t414 => (some (t414, true)))))) else (some (([] : List Int), false)))
theorem impl_OrderAt.mono : ∀ a0 a1 k, LeO (impl_OrderAt.f k a0 a1) (impl_OrderAt.f (k + 1) a0 a1) := by
  intro a0 a1 k
  unfold impl_OrderAt.f
  repeat' first
      | (with_reducible exact impl_factorial.mono _ _)
      | (with_reducible exact impl_orderAt.mono _ _ _)
      | (with_reducible exact LeO.refl _)
      | (with_reducible exact LeO.none _)
      | (with_reducible refine LeO.ite ?_ ?_)
      | (with_reducible refine LeO.bind ?_ (fun _ => ?_))
      | exact impl_factorial.mono _ _
      | exact impl_orderAt.mono _ _ _
      | exact LeO.none _
      | refine LeO.ite ?_ ?_
      | refine LeO.bind ?_ (fun _ => ?_)
set_option maxHeartbeats 8000000 in
set_option maxRecDepth 100000 in
theorem impl_OrderAt.calls (k : Nat) (a0 : Int) (a1 : Int) (r1 : List Int) (r2 : Bool) (w : World) (h : impl_OrderAt.f k a0 a1 = some (r1, r2)) :
    Calls Try.prog 66 #[.int .i64 a0, .int .i64 a1] w fun e w' => ∃ v0_ : Value, e = .returned (.tuple #[v0_, .bool r2]) ∧ Kd.R (Kd.int .i64) 3 w' w.heap.size (fun _ => True) v0_ r1 ∧ Below w.heap.size w w' := by
  have HB := Aside0.mk (Below.refl w.heap.size w)
  have H : ((impl_isSize.f a0).bind fun t412 => (if t412 = true then (if a1 < 0 then (some (([] : List Int), false)) else ((impl_factorial.f k a0).bind fun t413 => (if a1 ≥ t413 then (some (([] : List Int), false)) else ((impl_orderAt.f k a0 a1).bind fun t414 => (some (t414, true)))))) else (some (([] : List Int), false)))) = some (r1, r2) := h
  clear h
  replace H := Option.bind_eq_some_iff.mp H
  obtain ⟨t412, A30, H⟩ := H
  replace H : (if t412 = true then (if a1 < 0 then (some (([] : List Int), false)) else ((impl_factorial.f k a0).bind fun t413 => (if a1 ≥ t413 then (some (([] : List Int), false)) else ((impl_orderAt.f k a0 a1).bind fun t414 => (some (t414, true)))))) else (some (([] : List Int), false))) = some (r1, r2) := H
  have A3 := Aside0.mk A30
  clear A30
  by_cases c4 : t412 = true
  · subst c4
    have H1 : (if a1 < 0 then (some (([] : List Int), false)) else ((impl_factorial.f k a0).bind fun t413 => (if a1 ≥ t413 then (some (([] : List Int), false)) else ((impl_orderAt.f k a0 a1).bind fun t414 => (some (t414, true)))))) = some (r1, r2) := by rw [if_pos rfl] at H; exact H
    clear H
    have H := H1
    clear H1
    by_cases c5 : a1 < 0
    · rw [if_pos c5] at H
      have c5b0 : decide (a1 < 0) = true := decide_eq_true c5
      clear c5
      simp only [Option.some.injEq, Prod.mk.injEq] at H
      obtain ⟨rfl, rfl⟩ := H
      go_enter Try.func66, Try.ntmps66
      go_wp2_with (first | ((with_reducible refine gate_callee (f := 158) rfl ?_); refine goesL_ (some 7) rfl rfl Try.func158 (by kernel_rfl) rfl #[.int .i64 a0] rfl (by (try simp only [List.map_toArray, List.map_cons, List.map_nil]); first | done | rfl | (simp only [List.length_drop, List.length_take]; rfl)) ?_; (with_reducible refine (impl_isSize.calls a0 true _ A3.out).mono ?_); rintro e w' ⟨rfl, ⟨nd, rfl⟩⟩; refine ⟨_, rfl, ?_⟩))
      go_ret2
      exact ⟨_, by first | rfl | (simp [errW_none, errW_some] <;> rfl) | (simp [*, errW_none, errW_some] <;> rfl), by first | exact Kd.R_nil _ _ _ _ _ | exact Kd.N_nil _ _ _ _ _ | exact Kd.V_nil _ _ _ _ _ | exact Kd.Q_nil _ _ _ _ _ | exact Kd.S_nil _ _ _ _ _, by repeat (first | (with_reducible first | exact HB.out | apply below_alloc | apply pw_below_drewN | apply below_drew1) | exact HB.out)⟩
    · rw [if_neg c5] at H
      have c5b0 : decide (a1 < 0) = false := decide_eq_false c5
      clear c5
      replace H := Option.bind_eq_some_iff.mp H
      obtain ⟨t413, A60, H⟩ := H
      replace H : (if a1 ≥ t413 then (some (([] : List Int), false)) else ((impl_orderAt.f k a0 a1).bind fun t414 => (some (t414, true)))) = some (r1, r2) := H
      have A6 := Aside0.mk A60
      clear A60
      by_cases c7 : a1 ≥ t413
      · rw [if_pos c7] at H
        have c7b0 : decide (t413 ≤ a1) = true := decide_eq_true c7
        clear c7
        simp only [Option.some.injEq, Prod.mk.injEq] at H
        obtain ⟨rfl, rfl⟩ := H
        go_enter Try.func66, Try.ntmps66
        go_wp2_with (first | ((with_reducible refine gate_callee (f := 158) rfl ?_); refine goesL_ (some 7) rfl rfl Try.func158 (by kernel_rfl) rfl #[.int .i64 a0] rfl (by (try simp only [List.map_toArray, List.map_cons, List.map_nil]); first | done | rfl | (simp only [List.length_drop, List.length_take]; rfl)) ?_; (with_reducible refine (impl_isSize.calls a0 true _ A3.out).mono ?_); rintro e w' ⟨rfl, ⟨nd, rfl⟩⟩; refine ⟨_, rfl, ?_⟩) | (go_at_call 186; (with_reducible refine (impl_factorial.calls k a0 t413 _ A6.out).mono ?_); rintro e w' ⟨rfl, ⟨nd, rfl⟩⟩))
        go_ret2
        exact ⟨_, by first | rfl | (simp [errW_none, errW_some] <;> rfl) | (simp [*, errW_none, errW_some] <;> rfl), by first | exact Kd.R_nil _ _ _ _ _ | exact Kd.N_nil _ _ _ _ _ | exact Kd.V_nil _ _ _ _ _ | exact Kd.Q_nil _ _ _ _ _ | exact Kd.S_nil _ _ _ _ _, by repeat (first | (with_reducible first | exact HB.out | apply below_alloc | apply pw_below_drewN | apply below_drew1) | exact HB.out)⟩
      · rw [if_neg c7] at H
        have c7b0 : decide (t413 ≤ a1) = false := decide_eq_false c7
        clear c7
        replace H := Option.bind_eq_some_iff.mp H
        obtain ⟨t414, A80, H⟩ := H
        replace H : (some (t414, true)) = some (r1, r2) := H
        have A8 := Aside0.mk A80
        clear A80
        simp only [Option.some.injEq, Prod.mk.injEq] at H
        obtain ⟨rfl, rfl⟩ := H
        go_enter Try.func66, Try.ntmps66
        go_wp2_with (first | ((with_reducible refine gate_callee (f := 158) rfl ?_); refine goesL_ (some 7) rfl rfl Try.func158 (by kernel_rfl) rfl #[.int .i64 a0] rfl (by (try simp only [List.map_toArray, List.map_cons, List.map_nil]); first | done | rfl | (simp only [List.length_drop, List.length_take]; rfl)) ?_; (with_reducible refine (impl_isSize.calls a0 true _ A3.out).mono ?_); rintro e w' ⟨rfl, ⟨nd, rfl⟩⟩; refine ⟨_, rfl, ?_⟩) | (go_at_call 186; (with_reducible refine (impl_factorial.calls k a0 t413 _ A6.out).mono ?_); rintro e w' ⟨rfl, ⟨nd, rfl⟩⟩) | ((with_reducible refine gate_callee (f := 197) rfl ?_); refine goesL_ (some 21) rfl rfl Try.func197 (by kernel_rfl) rfl #[.int .i64 a0, .int .i64 a1] rfl (by (try simp only [List.map_toArray, List.map_cons, List.map_nil]); first | done | rfl | (simp only [List.length_drop, List.length_take]; rfl)) ?_; (with_reducible refine (impl_orderAt.calls k a0 a1 t414 _ A8.out).mono ?_); rintro e w9 ⟨v415, rfl, ho0, hb⟩; refine ⟨_, rfl, ?_⟩; have n0_ := Aside0.mk (Kd.R_lower ho0 (below_size (by repeat (first | (with_reducible first | exact HB.out | apply below_alloc | apply pw_below_drewN | apply below_drew1) | exact HB.out)))); have n1_ := Aside0.mk (below_step (by repeat (first | (with_reducible first | exact HB.out | apply below_alloc | apply pw_below_drewN | apply below_drew1) | exact HB.out)) hb); clear HB; have HO416 := n0_; have HB := n1_; clear n0_ n1_; (try clear hb); (try clear hb2); (try clear hk); (try clear hi); (try clear ho0)))
        go_ret2
        exact ⟨_, by first | rfl | (simp [errW_none, errW_some] <;> rfl) | (simp [*, errW_none, errW_some] <;> rfl), by (with_reducible repeat (first | apply Kd.R_alloc | apply Kd.R_drewN | apply Kd.R_drew)); exact HO416.out, by repeat (first | (with_reducible first | exact HB.out | apply below_alloc | apply pw_below_drewN | apply below_drew1) | exact HB.out)⟩
  · replace c4 := Bool.eq_false_iff.mpr c4
    subst c4
    have H1 : (some (([] : List Int), false)) = some (r1, r2) := by rw [if_neg (show ¬ (false = true) by decide)] at H; exact H
    clear H
    have H := H1
    clear H1
    simp only [Option.some.injEq, Prod.mk.injEq] at H
    obtain ⟨rfl, rfl⟩ := H
    go_enter Try.func66, Try.ntmps66
    go_wp2_with (first | ((with_reducible refine gate_callee (f := 158) rfl ?_); refine goesL_ (some 7) rfl rfl Try.func158 (by kernel_rfl) rfl #[.int .i64 a0] rfl (by (try simp only [List.map_toArray, List.map_cons, List.map_nil]); first | done | rfl | (simp only [List.length_drop, List.length_take]; rfl)) ?_; (with_reducible refine (impl_isSize.calls a0 false _ A3.out).mono ?_); rintro e w' ⟨rfl, ⟨nd, rfl⟩⟩; refine ⟨_, rfl, ?_⟩))
    go_ret2
    exact ⟨_, by first | rfl | (simp [errW_none, errW_some] <;> rfl) | (simp [*, errW_none, errW_some] <;> rfl), by first | exact Kd.R_nil _ _ _ _ _ | exact Kd.N_nil _ _ _ _ _ | exact Kd.V_nil _ _ _ _ _ | exact Kd.Q_nil _ _ _ _ _ | exact Kd.S_nil _ _ _ _ _, by repeat (first | (with_reducible first | exact HB.out | apply below_alloc | apply pw_below_drewN | apply below_drew1) | exact HB.out)⟩

/-! ### spec_OrderAt: function 67 -/
def spec_OrderAt.f (k : Nat) (a0 : Int) (a1 : Int) : Option (List Int × Bool) := (spec_l1In.f a0 1 7).bind fun t417 => (if t417 = true then ((spec_l2Ways.f k a0).bind fun t418 => ((spec_l1In.f a1 0 (wrap64 (t418 - 1))).bind fun t419 => (if t419 = true then ((spec_l2At.f k a0 a1).bind fun t420 => (some (t420, true))) else (some ((([] : List Int)), false))))) else (some ((([] : List Int)), false)))
theorem spec_OrderAt.mono : ∀ a0 a1 k, LeO (spec_OrderAt.f k a0 a1) (spec_OrderAt.f (k + 1) a0 a1) := by
  intro a0 a1 k
  unfold spec_OrderAt.f
  repeat' first
      | (with_reducible exact spec_l2At.mono _ _ _)
      | (with_reducible exact spec_l2Ways.mono _ _)
      | (with_reducible exact LeO.refl _)
      | (with_reducible exact LeO.none _)
      | (with_reducible refine LeO.ite ?_ ?_)
      | (with_reducible refine LeO.bind ?_ (fun _ => ?_))
      | exact spec_l2At.mono _ _ _
      | exact spec_l2Ways.mono _ _
      | exact LeO.none _
      | refine LeO.ite ?_ ?_
      | refine LeO.bind ?_ (fun _ => ?_)
set_option maxHeartbeats 8000000 in
set_option maxRecDepth 100000 in
theorem spec_OrderAt.calls (k : Nat) (a0 : Int) (a1 : Int) (r1 : List Int) (r2 : Bool) (w : World) (h : spec_OrderAt.f k a0 a1 = some (r1, r2)) :
    Calls Try.prog 67 #[.int .i64 a0, .int .i64 a1] w fun e w' => ∃ v0_ : Value, e = .returned (.tuple #[v0_, .bool r2]) ∧ Kd.R (Kd.int .i64) 3 w' w.heap.size (fun _ => True) v0_ r1 ∧ Below w.heap.size w w' := by
  have HB := Aside0.mk (Below.refl w.heap.size w)
  have H : ((spec_l1In.f a0 1 7).bind fun t417 => (if t417 = true then ((spec_l2Ways.f k a0).bind fun t418 => ((spec_l1In.f a1 0 (wrap64 (t418 - 1))).bind fun t419 => (if t419 = true then ((spec_l2At.f k a0 a1).bind fun t420 => (some (t420, true))) else (some ((([] : List Int)), false))))) else (some ((([] : List Int)), false)))) = some (r1, r2) := h
  clear h
  replace H := Option.bind_eq_some_iff.mp H
  obtain ⟨t417, A30, H⟩ := H
  replace H : (if t417 = true then ((spec_l2Ways.f k a0).bind fun t418 => ((spec_l1In.f a1 0 (wrap64 (t418 - 1))).bind fun t419 => (if t419 = true then ((spec_l2At.f k a0 a1).bind fun t420 => (some (t420, true))) else (some ((([] : List Int)), false))))) else (some ((([] : List Int)), false))) = some (r1, r2) := H
  have A3 := Aside0.mk A30
  clear A30
  by_cases c4 : t417 = true
  · subst c4
    have H1 : ((spec_l2Ways.f k a0).bind fun t418 => ((spec_l1In.f a1 0 (wrap64 (t418 - 1))).bind fun t419 => (if t419 = true then ((spec_l2At.f k a0 a1).bind fun t420 => (some (t420, true))) else (some ((([] : List Int)), false))))) = some (r1, r2) := by rw [if_pos rfl] at H; exact H
    clear H
    have H := H1
    clear H1
    replace H := Option.bind_eq_some_iff.mp H
    obtain ⟨t418, A50, H⟩ := H
    replace H : ((spec_l1In.f a1 0 (wrap64 (t418 - 1))).bind fun t419 => (if t419 = true then ((spec_l2At.f k a0 a1).bind fun t420 => (some (t420, true))) else (some ((([] : List Int)), false)))) = some (r1, r2) := H
    have A5 := Aside0.mk A50
    clear A50
    replace H := Option.bind_eq_some_iff.mp H
    obtain ⟨t419, A60, H⟩ := H
    replace H : (if t419 = true then ((spec_l2At.f k a0 a1).bind fun t420 => (some (t420, true))) else (some ((([] : List Int)), false))) = some (r1, r2) := H
    have A6 := Aside0.mk A60
    clear A60
    by_cases c7 : t419 = true
    · subst c7
      have H1 : ((spec_l2At.f k a0 a1).bind fun t420 => (some (t420, true))) = some (r1, r2) := by rw [if_pos rfl] at H; exact H
      clear H
      have H := H1
      clear H1
      replace H := Option.bind_eq_some_iff.mp H
      obtain ⟨t420, A80, H⟩ := H
      replace H : (some (t420, true)) = some (r1, r2) := H
      have A8 := Aside0.mk A80
      clear A80
      simp only [Option.some.injEq, Prod.mk.injEq] at H
      obtain ⟨rfl, rfl⟩ := H
      go_enter Try.func67, Try.ntmps67
      go_wp2_with (first | ((with_reducible refine gate_callee (f := 154) rfl ?_); refine goesL_ (some 7) rfl rfl Try.func154 (by kernel_rfl) rfl #[.int .i64 a0, .int .i64 1, .int .i64 7] rfl (by (try simp only [List.map_toArray, List.map_cons, List.map_nil]); first | done | rfl | (simp only [List.length_drop, List.length_take]; rfl)) ?_; (with_reducible refine (spec_l1In.calls a0 1 7 true _ A3.out).mono ?_); rintro e w' ⟨rfl, ⟨nd, rfl⟩⟩; refine ⟨_, rfl, ?_⟩) | (go_at_call 193; (with_reducible refine (spec_l2Ways.calls k a0 t418 _ A5.out).mono ?_); rintro e w' ⟨rfl, ⟨nd, rfl⟩⟩) | (go_at_call 154; (with_reducible refine (spec_l1In.calls a1 0 (wrap64 (t418 - 1)) true _ A6.out).mono ?_); rintro e w' ⟨rfl, ⟨nd, rfl⟩⟩) | ((with_reducible refine gate_callee (f := 191) rfl ?_); refine goesL_ (some 20) rfl rfl Try.func191 (by kernel_rfl) rfl #[.int .i64 a0, .int .i64 a1] rfl (by (try simp only [List.map_toArray, List.map_cons, List.map_nil]); first | done | rfl | (simp only [List.length_drop, List.length_take]; rfl)) ?_; (with_reducible refine (spec_l2At.calls k a0 a1 t420 _ A8.out).mono ?_); rintro e w9 ⟨v421, rfl, ho0, hb⟩; refine ⟨_, rfl, ?_⟩; have n0_ := Aside0.mk (Kd.R_lower ho0 (below_size (by repeat (first | (with_reducible first | exact HB.out | apply below_alloc | apply pw_below_drewN | apply below_drew1) | exact HB.out)))); have n1_ := Aside0.mk (below_step (by repeat (first | (with_reducible first | exact HB.out | apply below_alloc | apply pw_below_drewN | apply below_drew1) | exact HB.out)) hb); clear HB; have HO422 := n0_; have HB := n1_; clear n0_ n1_; (try clear hb); (try clear hb2); (try clear hk); (try clear hi); (try clear ho0)))
      go_ret2
      exact ⟨_, by first | rfl | (simp [errW_none, errW_some] <;> rfl) | (simp [*, errW_none, errW_some] <;> rfl), by (with_reducible repeat (first | apply Kd.R_alloc | apply Kd.R_drewN | apply Kd.R_drew)); exact HO422.out, by repeat (first | (with_reducible first | exact HB.out | apply below_alloc | apply pw_below_drewN | apply below_drew1) | exact HB.out)⟩
    · replace c7 := Bool.eq_false_iff.mpr c7
      subst c7
      have H1 : (some ((([] : List Int)), false)) = some (r1, r2) := by rw [if_neg (show ¬ (false = true) by decide)] at H; exact H
      clear H
      have H := H1
      clear H1
      obtain ⟨y423, hy423⟩ : ∃ y_ : List Int, y_ = (([] : List Int)) := ⟨_, rfl⟩
      replace H : (some (y423, false)) = some (r1, r2) := by first | (rw [hy423]; with_reducible exact H) | (have H2_ := (Option.bind_some _ _).symm.trans H; rw [hy423]; with_reducible exact H2_) | (have H2_ := (Option.bind_some _ _).symm.trans H; with_reducible exact H2_) | with_reducible exact H | (rw [hy423]; exact H) | exact H
      have Ny423 := Aside0.mk hy423
      clear hy423
      simp only [Option.some.injEq, Prod.mk.injEq] at H
      obtain ⟨rfl, rfl⟩ := H
      go_enter Try.func67, Try.ntmps67
      go_wp2_with (first | ((with_reducible refine gate_callee (f := 154) rfl ?_); refine goesL_ (some 7) rfl rfl Try.func154 (by kernel_rfl) rfl #[.int .i64 a0, .int .i64 1, .int .i64 7] rfl (by (try simp only [List.map_toArray, List.map_cons, List.map_nil]); first | done | rfl | (simp only [List.length_drop, List.length_take]; rfl)) ?_; (with_reducible refine (spec_l1In.calls a0 1 7 true _ A3.out).mono ?_); rintro e w' ⟨rfl, ⟨nd, rfl⟩⟩; refine ⟨_, rfl, ?_⟩) | (go_at_call 193; (with_reducible refine (spec_l2Ways.calls k a0 t418 _ A5.out).mono ?_); rintro e w' ⟨rfl, ⟨nd, rfl⟩⟩) | (go_at_call 154; (with_reducible refine (spec_l1In.calls a1 0 (wrap64 (t418 - 1)) false _ A6.out).mono ?_); rintro e w' ⟨rfl, ⟨nd, rfl⟩⟩) | ((with_reducible refine gate_dst (N := 17) rfl ?_); refine Kd.R_lit (Kd.int .i64) _ 3 ?hg (N := 17) ?hd (xs := ([] : List Int)) (inner := []) (ok := fun _ => True) (okp := fun _ => True) ?hr ?hp (fun _ hk => hk) trivial (Below.refl _ _) (Nat.le_refl _) (by simp) ?_; (case hd => rfl); (case hg => rfl); (case hr => first | (go_simp; done) | (go_simp; rfl)); (case hp => exact (Reps.none _ _)); intro v424 w10 ho11 hb hg_ hnew_; clear hg_ hnew_; (first | rw [← Ny423.out] at ho11 | (simp only [Int.reduceToNat] at ho11; rw [← Ny423.out] at ho11)); have n0_ := Aside0.mk (Kd.R_lower ho11 (below_size (by repeat (first | (with_reducible first | exact HB.out | apply below_alloc | apply pw_below_drewN | apply below_drew1) | exact HB.out)))); have n1_ := Aside0.mk (below_step (by repeat (first | (with_reducible first | exact HB.out | apply below_alloc | apply pw_below_drewN | apply below_drew1) | exact HB.out)) hb); clear HB; have HO425 := n0_; have HB := n1_; clear n0_ n1_; clear hb ho11))
      go_ret2
      exact ⟨_, by first | rfl | (simp [errW_none, errW_some] <;> rfl) | (simp [*, errW_none, errW_some] <;> rfl), by (with_reducible repeat (first | apply Kd.R_alloc | apply Kd.R_drewN | apply Kd.R_drew)); exact HO425.out, by repeat (first | (with_reducible first | exact HB.out | apply below_alloc | apply pw_below_drewN | apply below_drew1) | exact HB.out)⟩
  · replace c4 := Bool.eq_false_iff.mpr c4
    subst c4
    have H1 : (some ((([] : List Int)), false)) = some (r1, r2) := by rw [if_neg (show ¬ (false = true) by decide)] at H; exact H
    clear H
    have H := H1
    clear H1
    obtain ⟨y426, hy426⟩ : ∃ y_ : List Int, y_ = (([] : List Int)) := ⟨_, rfl⟩
    replace H : (some (y426, false)) = some (r1, r2) := by first | (rw [hy426]; with_reducible exact H) | (have H2_ := (Option.bind_some _ _).symm.trans H; rw [hy426]; with_reducible exact H2_) | (have H2_ := (Option.bind_some _ _).symm.trans H; with_reducible exact H2_) | with_reducible exact H | (rw [hy426]; exact H) | exact H
    have Ny426 := Aside0.mk hy426
    clear hy426
    simp only [Option.some.injEq, Prod.mk.injEq] at H
    obtain ⟨rfl, rfl⟩ := H
    go_enter Try.func67, Try.ntmps67
    go_wp2_with (first | ((with_reducible refine gate_callee (f := 154) rfl ?_); refine goesL_ (some 7) rfl rfl Try.func154 (by kernel_rfl) rfl #[.int .i64 a0, .int .i64 1, .int .i64 7] rfl (by (try simp only [List.map_toArray, List.map_cons, List.map_nil]); first | done | rfl | (simp only [List.length_drop, List.length_take]; rfl)) ?_; (with_reducible refine (spec_l1In.calls a0 1 7 false _ A3.out).mono ?_); rintro e w' ⟨rfl, ⟨nd, rfl⟩⟩; refine ⟨_, rfl, ?_⟩) | ((with_reducible refine gate_dst (N := 17) rfl ?_); refine Kd.R_lit (Kd.int .i64) _ 3 ?hg (N := 17) ?hd (xs := ([] : List Int)) (inner := []) (ok := fun _ => True) (okp := fun _ => True) ?hr ?hp (fun _ hk => hk) trivial (Below.refl _ _) (Nat.le_refl _) (by simp) ?_; (case hd => rfl); (case hg => rfl); (case hr => first | (go_simp; done) | (go_simp; rfl)); (case hp => exact (Reps.none _ _)); intro v427 w12 ho13 hb hg_ hnew_; clear hg_ hnew_; (first | rw [← Ny426.out] at ho13 | (simp only [Int.reduceToNat] at ho13; rw [← Ny426.out] at ho13)); have n0_ := Aside0.mk (Kd.R_lower ho13 (below_size (by repeat (first | (with_reducible first | exact HB.out | apply below_alloc | apply pw_below_drewN | apply below_drew1) | exact HB.out)))); have n1_ := Aside0.mk (below_step (by repeat (first | (with_reducible first | exact HB.out | apply below_alloc | apply pw_below_drewN | apply below_drew1) | exact HB.out)) hb); clear HB; have HO428 := n0_; have HB := n1_; clear n0_ n1_; clear hb ho13))
    go_ret2
    exact ⟨_, by first | rfl | (simp [errW_none, errW_some] <;> rfl) | (simp [*, errW_none, errW_some] <;> rfl), by (with_reducible repeat (first | apply Kd.R_alloc | apply Kd.R_drewN | apply Kd.R_drew)); exact HO428.out, by repeat (first | (with_reducible first | exact HB.out | apply below_alloc | apply pw_below_drewN | apply below_drew1) | exact HB.out)⟩

/-! ### spec_l1Cur_spoilt: function 198 -/
section
open Go.Proofs.Ytlkddcabjcejdaa.Base
def spo (a1 x : ByteArray) (p : Nat) (r : Int) : ByteArray := if r = 0 then (a1.extract 0 p ++ x) ++ a1.extract p a1.size else if r = 1 then (a1.extract 0 p ++ x) ++ a1.extract (p + 1) a1.size else a1.extract 0 p ++ a1.extract (p + 1) a1.size
def spec_l1Cur_spoilt.f (s0_0 : List Int) (s0_1 : Int) (s0_2 : Int) (a1 : ByteArray) (a2 : ByteArray) : Option (ByteArray × Int × Int) := if a1.toList = ([] : List UInt8) then (if 1 ≤ a2.size ∧ a2.size ≤ 1000 then some (a2.extract 0 1, s0_1, s0_2) else none) else ((spec_l1Cur_pick.f s0_0 s0_1 s0_2 (a1.size : Int)).bind fun p => (spec_l1Cur_pick.f s0_0 p.2.1 p.2.2 (a2.size : Int)).bind fun q => (spec_l1Cur_pick.f s0_0 q.2.1 q.2.2 3).bind fun r => if 0 ≤ p.1 ∧ p.1 < (a1.size : Int) ∧ 0 ≤ q.1 ∧ q.1 < (a2.size : Int) ∧ a1.size ≤ 1000000 ∧ a2.size ≤ 1000 then some (spo a1 ((a2.extract q.1.toNat a2.size).extract 0 1) p.1.toNat r.1, r.2.1, r.2.2) else none)
set_option maxHeartbeats 8000000 in
set_option maxRecDepth 100000 in
theorem spec_l1Cur_spoilt.calls (g : Nat) (s0_0 : List Int) (s0_1 : Int) (s0_2 : Int) (a1 : ByteArray) (a2 : ByteArray) (r1 : ByteArray) (r2 : Int) (r3 : Int) (w0 w : World) (hI : IsS102 w0 w g s0_0 s0_1 s0_2) (hB : Below w0.heap.size w0 w) (h : spec_l1Cur_spoilt.f s0_0 s0_1 s0_2 a1 a2 = some (r1, r2, r3)) :
    Calls Try.prog 198 #[.pointer (some ⟨g, 0, none⟩), .string a1, .string a2] w fun e w' => e = .returned (.string r1) ∧ IsS102 w0 w' g s0_0 r2 r3 ∧ Below w0.heap.size w0 w' ∧ KeepBut w w' g none := by
  unfold spec_l1Cur_spoilt.f at h
  have HI := Aside0.mk hI
  have HB := Aside0.mk hB
  by_cases c1 : a1.toList = ([] : List UInt8)
  · rw [if_pos c1] at h
    by_cases c2 : 1 ≤ a2.size ∧ a2.size ≤ 1000
    · rw [if_pos c2] at h
      obtain ⟨rfl, h2⟩ := Prod.mk.inj (Option.some.inj h)
      obtain ⟨rfl, rfl⟩ := Prod.mk.inj h2
      have c1b : (a1.toList == ([] : List UInt8)) = true := beq_iff_eq.mpr c1
      have hs0 : (0 : Int) ≤ 1 := by omega
      have hs1 : (1 : Int) ≤ (a2.size : Int) := by omega
      clear h h2 c1 hI hB c2
      go_enter Try.func198, Try.ntmps198
      go_wp2_with (fail)
      repeat (go_quiet (fail); try go_wp2)
      go_ret
      exact ⟨by first | rfl | (simp <;> rfl), HI.out, HB.out, KeepBut.refl _ _ _⟩
    · rw [if_neg c2] at h; cases h
  · rw [if_neg c1] at h
    obtain ⟨⟨p, s1, s2⟩, hp, h⟩ := Option.bind_eq_some_iff.1 h
    obtain ⟨⟨q, s3, s4⟩, hq, h⟩ := Option.bind_eq_some_iff.1 h
    obtain ⟨⟨r, s5, s6⟩, hr, h⟩ := Option.bind_eq_some_iff.1 h
    simp only at hq hr h
    by_cases c2 : 0 ≤ p ∧ p < (a1.size : Int) ∧ 0 ≤ q ∧ q < (a2.size : Int) ∧ a1.size ≤ 1000000 ∧ a2.size ≤ 1000
    · rw [if_pos c2] at h
      obtain ⟨hr1, h2⟩ := Prod.mk.inj (Option.some.inj h)
      obtain ⟨rfl, rfl⟩ := Prod.mk.inj h2
      obtain ⟨p0, p1, q0, q1, l1, l2⟩ := c2
      obtain ⟨p, rfl⟩ : ∃ n : Nat, p = (n : Int) := ⟨p.toNat, by omega⟩
      obtain ⟨q, rfl⟩ : ∃ n : Nat, q = (n : Int) := ⟨q.toNat, by omega⟩
      have HP := Aside0.mk hp
      have HQ := Aside0.mk hq
      have HR := Aside0.mk hr
      have HR1 := Aside0.mk hr1
      have c1b : (a1.toList == ([] : List UInt8)) = false := beq_eq_false_iff_ne.mpr c1
      have q2 : (q : Int) ≤ (a2.size : Int) := by omega
      have q3 : (1 : Int) ≤ ((a2.extract q a2.size).size : Int) := by rw [ByteArray.size_extract]; omega
      clear h h2 hp hq hr hr1 c1 hI hB
      go_enter Try.func198, Try.ntmps198
      go_wp2_with (fail)
      refine (spec_l1Cur_pick.calls g s0_0 s0_1 s0_2 (a1.size : Int) (p : Int) s1 s2 w0 _ HI.out HB.out HP.out).mono ?_
      rintro e_ w1 ⟨rfl, hi1, hb1, hk1⟩
      have HI1 := Aside0.mk hi1
      have HB1 := Aside0.mk hb1
      have HK1 := Aside0.mk hk1
      clear hi1 hb1 hk1
      go_wp2_with (fail)
      refine (spec_l1Cur_pick.calls g s0_0 s1 s2 (a2.size : Int) (q : Int) s3 s4 w0 _ HI1.out HB1.out HQ.out).mono ?_
      rintro e_ w2 ⟨rfl, hi1, hb1, hk1⟩
      have HI2 := Aside0.mk hi1
      have HB2 := Aside0.mk hb1
      have HK2 := Aside0.mk (KeepBut.trans HK1.out hk1 (.inl rfl))
      clear hi1 hb1 hk1
      go_wp2_with (fail)
      refine (spec_l1Cur_pick.calls g s0_0 s3 s4 3 r s5 s6 w0 _ HI2.out HB2.out HR.out).mono ?_
      rintro e_ w3 ⟨rfl, hi1, hb1, hk1⟩
      have HI3 := Aside0.mk hi1
      have HB3 := Aside0.mk hb1
      have HK3 := Aside0.mk (KeepBut.trans HK2.out hk1 (.inl rfl))
      clear hi1 hb1 hk1
      obtain ⟨x, hx⟩ : ∃ x, (a2.extract q a2.size).extract 0 1 = x := ⟨_, rfl⟩
      have hxl : x.size ≤ 1 := by rw [← hx]; simp only [ByteArray.size_extract]; omega
      rw [Int.toNat_natCast, Int.toNat_natCast, hx] at HR1
      rw [hx]
      clear hx HI HB HI1 HB1 HK1 HI2 HB2 HK2 HP HQ HR q0 q1 q2 q3 c1b
      have s1' : (a1.extract 0 p).size ≤ 1000000 := by rw [ByteArray.size_extract]; omega
      have s2' : (a1.extract p a1.size).size ≤ 1000000 := by rw [ByteArray.size_extract]; omega
      have s3' : (a1.extract (p + 1) a1.size).size ≤ 1000000 := by rw [ByteArray.size_extract]; omega
      have s4' : (a1.extract 0 p ++ x).size ≤ 1000001 := by rw [ByteArray.size_append]; omega
      have p2 : (p : Int) ≤ (a1.size : Int) := by omega
      have p3 : (0 : Int) ≤ (p : Int) + 1 := by omega
      have p4 : (p : Int) + 1 ≤ (a1.size : Int) := by omega
      have p5 : wrap64 ((p : Int) + 1) = (p : Int) + 1 := wrap_of (by omega) (by omega)
      have p6 : ((p : Int) + 1).toNat = p + 1 := by omega
      have e1 : (9223372036854775807 < (a1.extract 0 p).size + x.size) = False := eq_false (by omega)
      have e1l : (a1.extract 0 p).size + x.size ≤ 9223372036854775807 := by omega
      have e1d : decide ((a1.extract 0 p).size + x.size ≤ 9223372036854775807) = true := decide_eq_true e1l
      have e2 : (9223372036854775807 < (a1.extract 0 p ++ x).size + (a1.extract p a1.size).size) = False := eq_false (by omega)
      have e2l : (a1.extract 0 p ++ x).size + (a1.extract p a1.size).size ≤ 9223372036854775807 := by omega
      have e2d : decide ((a1.extract 0 p ++ x).size + (a1.extract p a1.size).size ≤ 9223372036854775807) = true := decide_eq_true e2l
      have e3 : (9223372036854775807 < (a1.extract 0 p ++ x).size + (a1.extract (p + 1) a1.size).size) = False := eq_false (by omega)
      have e3l : (a1.extract 0 p ++ x).size + (a1.extract (p + 1) a1.size).size ≤ 9223372036854775807 := by omega
      have e3d : decide ((a1.extract 0 p ++ x).size + (a1.extract (p + 1) a1.size).size ≤ 9223372036854775807) = true := decide_eq_true e3l
      have e4 : (9223372036854775807 < (a1.extract 0 p).size + (a1.extract (p + 1) a1.size).size) = False := eq_false (by omega)
      have e4l : (a1.extract 0 p).size + (a1.extract (p + 1) a1.size).size ≤ 9223372036854775807 := by omega
      have e4d : decide ((a1.extract 0 p).size + (a1.extract (p + 1) a1.size).size ≤ 9223372036854775807) = true := decide_eq_true e4l
      clear s1' s2' s3' s4' hxl l1 l2 p1
      by_cases r0 : r = 0
      · have r0b : (r == 0) = true := beq_iff_eq.mpr r0
        have e : r1 = (a1.extract 0 p ++ x) ++ a1.extract p a1.size := by rw [← HR1.out]; unfold spo; rw [if_pos r0]
        have HE := Aside0.mk e
        clear r0 e HR1 e3 e4 p3 p4 p5 p6
        go_wp2_with (fail)
        repeat (go_quiet (fail); try go_wp2)
        go_ret
        exact ⟨by rw [HE.out]; rfl, by repeat (first | exact HI3.out | apply IsS102.drewN), by repeat (first | exact HB3.out | apply pw_below_drewN), by repeat (first | exact HK3.out | apply keep_drewN)⟩
      · have r0b : (r == 0) = false := beq_eq_false_iff_ne.mpr r0
        by_cases r1c : r = 1
        · have r1b : (r == 1) = true := beq_iff_eq.mpr r1c
          have e : r1 = (a1.extract 0 p ++ x) ++ a1.extract (p + 1) a1.size := by rw [← HR1.out]; unfold spo; rw [if_neg r0, if_pos r1c]
          have HE := Aside0.mk e
          clear r0 r1c e HR1 e2 e4
          go_wp2_with (fail)
          repeat (go_quiet (fail); try go_wp2)
          go_ret
          exact ⟨by rw [HE.out]; rfl, by repeat (first | exact HI3.out | apply IsS102.drewN), by repeat (first | exact HB3.out | apply pw_below_drewN), by repeat (first | exact HK3.out | apply keep_drewN)⟩
        · have r1b : (r == 1) = false := beq_eq_false_iff_ne.mpr r1c
          have e : r1 = a1.extract 0 p ++ a1.extract (p + 1) a1.size := by rw [← HR1.out]; unfold spo; rw [if_neg r0, if_neg r1c]
          have HE := Aside0.mk e
          clear r0 r1c e HR1 e1 e2 e3
          go_wp2_with (fail)
          repeat (go_quiet (fail); try go_wp2)
          go_ret
          exact ⟨by rw [HE.out]; rfl, by repeat (first | exact HI3.out | apply IsS102.drewN), by repeat (first | exact HB3.out | apply pw_below_drewN), by repeat (first | exact HK3.out | apply keep_drewN)⟩
    · rw [if_neg c2] at h; cases h
end

end Go.Proofs.Ytlkddcabjcejdaa.MFnOrders
