/- The functions that FnSweeps comes to, with a walk for each. Made by this session's own program (wip/tools/mk.py), in the form of the kit's print; walks named in NOTES.md were written by hand. -/
import Derived.Test.YtlkddcabjcejdaaMFnSweepsx0
import Derived.Test.YtlkddcabjcejdaaMFnSweepsx3
import Derived.Test.YtlkddcabjcejdaaMFnSweepsx5
import Derived.Test.YtlkddcabjcejdaaMFnSweepsx8
namespace Go.Proofs.Ytlkddcabjcejdaa.MFnSweeps
open Go.RowKit Go.Proofs.YtlkddcabjcejdaaW.PrintWords Go.Proofs.YtlkddcabjcejdaaW.PrintLast Go.Proofs.YtlkddcabjcejdaaW.PrintMore
attribute [local go_sem] max2_int min2_int max_two min_two max_three min_three max_four min_four   -- for this text's walks alone
set_option linter.unusedVariables false
set_option linter.unusedSimpArgs false

/-! ### impl_allOrders: function 175 -/
def impl_allOrders.l0 : Nat → Int → List (List Int) → Int → Int → Option ((List (List Int)))
  | 0, _, _, _, _ => none
  | k + 1, x0, x3, x7, x8 => if x8 < x7 then ((impl_orderAt.f k x0 x8).bind fun t394 => (if x3.length < 5864062014805 then (impl_allOrders.l0 k x0 (x3 ++ [t394]) x7 (wrap64 (x8 + 1))) else (none))) else (some x3)
def impl_allOrders.f (k : Nat) (a0 : Int) : Option ((List (List Int))) := (impl_factorial.f k a0).bind fun t393 => (impl_allOrders.l0 k a0 (([] : List (List Int))) t393 0)
theorem impl_allOrders.mono_l : ∀ k, (∀ y0 y1 y2 y3, LeO (impl_allOrders.l0 k y0 y1 y2 y3) (impl_allOrders.l0 (k + 1) y0 y1 y2 y3))
  | 0 => fun _ _ _ _ r h => by simp [impl_allOrders.l0] at h
  | k + 1 => by
    have ih0 := impl_allOrders.mono_l k
    · intro y0 y1 y2 y3
      unfold impl_allOrders.l0
      repeat' first
      | (with_reducible exact ih0 _ _ _ _)
      | (with_reducible exact impl_factorial.mono _ _)
      | (with_reducible exact impl_orderAt.mono _ _ _)
      | (with_reducible exact LeO.refl _)
      | (with_reducible exact LeO.none _)
      | (with_reducible refine LeO.ite ?_ ?_)
      | (with_reducible refine LeO.bind ?_ (fun _ => ?_))
      | exact ih0 _ _ _ _
      | exact impl_factorial.mono _ _
      | exact impl_orderAt.mono _ _ _
      | exact LeO.none _
      | refine LeO.ite ?_ ?_
      | refine LeO.bind ?_ (fun _ => ?_)
theorem impl_allOrders.mono : ∀ a0 k, LeO (impl_allOrders.f k a0) (impl_allOrders.f (k + 1) a0) := by
  intro a0 k
  have ih0 := impl_allOrders.mono_l k
  unfold impl_allOrders.f
  repeat' first
      | (with_reducible exact ih0 _ _ _ _)
      | (with_reducible exact impl_factorial.mono _ _)
      | (with_reducible exact impl_orderAt.mono _ _ _)
      | (with_reducible exact LeO.refl _)
      | (with_reducible exact LeO.none _)
      | (with_reducible refine LeO.ite ?_ ?_)
      | (with_reducible refine LeO.bind ?_ (fun _ => ?_))
      | exact ih0 _ _ _ _
      | exact impl_factorial.mono _ _
      | exact impl_orderAt.mono _ _ _
      | exact LeO.none _
      | refine LeO.ite ?_ ?_
      | refine LeO.bind ?_ (fun _ => ?_)
set_option maxHeartbeats 8000000 in
set_option maxRecDepth 100000 in
theorem impl_allOrders.calls (k : Nat) (a0 : Int) (r : List (List Int)) (w : World) (h : impl_allOrders.f k a0 = some r) :
    Calls Try.prog 175 #[.int .i64 a0] w fun e w' => ∃ v0_ : Value, e = .returned (v0_) ∧ Kd.S (Kd.slice 3 (Kd.int .i64)) 22 w' w.heap.size (fun _ => True) v0_ r ∧ Below w.heap.size w w' := by
  have HB := Aside0.mk (Below.refl w.heap.size w)
  have H : ((impl_factorial.f k a0).bind fun t393 => (impl_allOrders.l0 k a0 (([] : List (List Int))) t393 0)) = some r := h
  clear h
  obtain ⟨y390, hy390⟩ : ∃ y_ : List (List Int), y_ = (([] : List (List Int))) := ⟨_, rfl⟩
  replace H : ((impl_factorial.f k a0).bind fun t393 => (impl_allOrders.l0 k a0 y390 t393 0)) = some r := by first | (rw [hy390]; with_reducible exact H) | (have H2_ := (Option.bind_some _ _).symm.trans H; rw [hy390]; with_reducible exact H2_) | (have H2_ := (Option.bind_some _ _).symm.trans H; with_reducible exact H2_) | with_reducible exact H | (rw [hy390]; exact H) | exact H
  have Ny390 := Aside0.mk hy390
  clear hy390
  replace H := Option.bind_eq_some_iff.mp H
  obtain ⟨t393, A20, H⟩ := H
  replace H : (impl_allOrders.l0 k a0 y390 t393 0) = some r := H
  have A2 := Aside0.mk A20
  clear A20
  have H' := Aside0.mk H
  clear H
  go_enter Try.func175, Try.ntmps175
  go_wp2_with (first | ((with_reducible refine gate_dst (N := 5) rfl ?_); refine Kd.S_lit (Kd.slice 3 (Kd.int .i64)) _ 22 ?hg (N := 5) ?hd (xs := ([] : List (List Int))) (inner := []) (ok := fun _ => True) (okp := fun _ => True) ?hr ?hp (fun _ hk => hk) trivial (Below.refl _ _) (Nat.le_refl _) (by simp) ?_; (case hd => rfl); (case hg => rfl); (case hr => first | (go_simp; done) | (go_simp; rfl)); (case hp => exact (Reps.none _ _)); intro v391 w3 ho4 hb hg_ hnew_; clear hg_ hnew_; (first | rw [← Ny390.out] at ho4 | (simp only [Int.reduceToNat] at ho4; rw [← Ny390.out] at ho4)); have n0_ := Aside0.mk (Kd.S_lower ho4 (below_size (by repeat (first | (with_reducible first | exact HB.out | apply below_alloc | apply pw_below_drewN | apply below_drew1) | exact HB.out)))); have n1_ := Aside0.mk (below_step (by repeat (first | (with_reducible first | exact HB.out | apply below_alloc | apply pw_below_drewN | apply below_drew1) | exact HB.out)) hb); clear HB; have HO392 := n0_; have HB := n1_; clear n0_ n1_; clear hb ho4) | ((with_reducible refine gate_callee (f := 186) rfl ?_); refine goesL_ (some 7) rfl rfl Try.func186 (by kernel_rfl) rfl #[.int .i64 a0] rfl (by (try simp only [List.map_toArray, List.map_cons, List.map_nil]); first | done | rfl | (simp only [List.length_drop, List.length_take]; rfl)) ?_; (with_reducible refine (impl_factorial.calls k a0 t393 _ A2.out).mono ?_); rintro e w' ⟨rfl, ⟨nd, rfl⟩⟩; refine ⟨_, rfl, ?_⟩))
  go_loopg [3, 8] k (fun kq v3 v8 w' => ∃ (x3_1 : List (List Int)) (x8_1 : Int), v8 = .int .i64 x8_1 ∧ Aside0 (impl_allOrders.l0 kq a0 x3_1 t393 x8_1 = some r) ∧ Aside0 (kq ≤ k) ∧ Aside0 (Kd.S (Kd.slice 3 (Kd.int .i64)) 22 w' w.heap.size (fun _ => True) v3 x3_1) ∧ Aside0 (Below w.heap.size w w'))
  case atStart => exact ⟨(y390), (0), (by first | rfl | (simp; done) | (simp [*]; done)), H', ⟨Nat.le_refl _⟩, ⟨by (with_reducible repeat (first | apply Kd.S_alloc | apply Kd.S_drewN | apply Kd.S_drew)); exact HO392.out⟩, ⟨by repeat (first | (with_reducible first | exact HB.out | apply below_alloc | apply pw_below_drewN | apply below_drew1) | exact HB.out)⟩⟩
  case round =>
    clear H'
    try clear c1
    try clear p2
    obtain ⟨x3_1, x8_1, rfl, HA, HK1, HO_3, HB⟩ := hrel
    cases gk with
    | zero => exact absurd HA.out (by simp [impl_allOrders.l0])
    | succ k1 =>
      have H := HA.out
      clear HA
      simp only [impl_allOrders.l0] at H
      by_cases c5 : x8_1 < t393
      · rw [if_pos c5] at H
        have c5b0 : decide (x8_1 < t393) = true := decide_eq_true c5
        clear c5
        replace H := Option.bind_eq_some_iff.mp H
        obtain ⟨t394, A60, H⟩ := H
        replace H : (if x3_1.length < 5864062014805 then (impl_allOrders.l0 k1 a0 (x3_1 ++ [t394]) t393 (wrap64 (x8_1 + 1))) else (none)) = some r := H
        have A6 := Aside0.mk A60
        clear A60
        by_cases c7 : x3_1.length < 5864062014805
        · rw [if_pos c7] at H
          have LMc7 := Aside0.mk c7
          clear c7
          obtain ⟨y397, hy397⟩ : ∃ y_ : List (List Int), y_ = (x3_1 ++ [t394]) := ⟨_, rfl⟩
          replace H : (impl_allOrders.l0 k1 a0 y397 t393 (wrap64 (x8_1 + 1))) = some r := by first | (rw [hy397]; with_reducible exact H) | (have H2_ := (Option.bind_some _ _).symm.trans H; rw [hy397]; with_reducible exact H2_) | (have H2_ := (Option.bind_some _ _).symm.trans H; with_reducible exact H2_) | with_reducible exact H | (rw [hy397]; exact H) | exact H
          have Ny397 := Aside0.mk hy397
          clear hy397
          have H' := Aside0.mk H
          clear H
          go_wp2_with (first | ((with_reducible refine gate_callee (f := 197) rfl ?_); refine goesL_ (some 14) rfl rfl Try.func197 (by kernel_rfl) rfl #[.int .i64 a0, .int .i64 x8_1] rfl (by (try simp only [List.map_toArray, List.map_cons, List.map_nil]); first | done | rfl | (simp only [List.length_drop, List.length_take]; rfl)) ?_; (with_reducible refine (impl_orderAt.calls k1 a0 x8_1 t394 _ A6.out).mono ?_); rintro e w8 ⟨v395, rfl, ho0, hb⟩; refine ⟨_, rfl, ?_⟩; have n0_ := Aside0.mk (Kd.S_elder' (by (with_reducible repeat (first | apply Kd.S_alloc | apply Kd.S_drewN | apply Kd.S_drew)); exact HO_3.out) (Kd.R_base ho0) hb); have n1_ := Aside0.mk (Kd.R_lower ho0 (below_size (by repeat (first | (with_reducible first | exact HB.out | apply below_alloc | apply pw_below_drewN | apply below_drew1) | exact HB.out)))); have n2_ := Aside0.mk (below_step (by repeat (first | (with_reducible first | exact HB.out | apply below_alloc | apply pw_below_drewN | apply below_drew1) | exact HB.out)) hb); clear HO_3; clear HB; have HO_3 := n0_; have HO396 := n1_; have HB := n2_; clear n0_ n1_ n2_; (try clear hb); (try clear hb2); (try clear hk); (try clear hi); (try clear ho0); obtain ⟨Ao10, co10, eo10⟩ := Kd.R_slice HO396.out; subst eo10) | ((with_reducible refine gate_builtin (b := .append) (xs := #[.tmp 11, .tmp 15]) rfl ?_); at_builtin; refine Kd.S_append (Kd.slice 3 (Kd.int .i64)) (w0 := w) w.heap.size rfl (.tmp 11) (.tmp 15) 28 22 (.slice none 0 0) 24 rfl Try.underlying28 info22 rfl (by decide) (by omega) u3 x3_1 t394 [.slice Ao10 t394.length co10] (fun _ => True) (fun k_ => some k_ = (.slice Ao10 t394.length co10 : Value).ownBlock) rfl rfl ?aP (fun k_ hk_ => ((Kd.R_mono (ok' := fun k_ => ((fun _ => True)) k_ ∧ some k_ ≠ (u3 : Value).ownBlock) (Kd.R_apart' (HO396.out) (Kd.S_typed HO_3.out) (by decide)) (fun k_ hk => ⟨trivial, hk.2⟩))).1 k_ hk_.symm) ?aF ?aO ?aB ?aS ?aL ?_; (case aP => exact Kd.M_row (Kd.R_mono (Kd.R_tight rfl (Kd.R_mono (ok' := fun k_ => ((fun _ => True)) k_ ∧ some k_ ≠ (u3 : Value).ownBlock) (Kd.R_apart' (HO396.out) (Kd.S_typed HO_3.out) (by decide)) (fun k_ hk => ⟨trivial, hk.2⟩))) (fun _ h_ => h_))); (case aB => exact (by repeat (first | (with_reducible first | exact HB.out | apply below_alloc | apply pw_below_drewN | apply below_drew1) | exact HB.out))); (case aF => exact (fun _ _ => trivial)); (case aO => exact (by (with_reducible repeat (first | apply Kd.S_alloc | apply Kd.S_drewN | apply Kd.S_drew)); exact Kd.S_mono HO_3.out (fun k_ hk => ⟨trivial, fun e_ => hk.2 e_⟩))); (case aS => exact (below_size (by repeat (first | (with_reducible first | exact HB.out | apply below_alloc | apply pw_below_drewN | apply below_drew1) | exact HB.out)))); (case aL => have := LMc7.out; omega); intro v398 w9 ho hb hg hat; rw [← Ny397.out] at ho; have n0_ := Aside0.mk (hb); have n1_ := Aside0.mk (ho); clear HB; clear HO_3; clear HO396; have HB := n0_; have HO399 := n1_; clear n0_ n1_; clear ho hb hg hat))
          go_roundg k1
          case measure => have := HK1.out; omega
          case rel => exact ⟨(y397), (wrap64 (x8_1 + 1)), (by first | rfl | (simp; done) | (simp [*]; done)), H', ⟨by have := HK1.out; omega⟩, ⟨by (with_reducible repeat (first | apply Kd.S_alloc | apply Kd.S_drewN | apply Kd.S_drew)); exact HO399.out⟩, ⟨by repeat (first | (with_reducible first | exact HB.out | apply below_alloc | apply pw_below_drewN | apply below_drew1) | exact HB.out)⟩⟩
        · rw [if_neg c7] at H
          exact absurd H (by simp)
      · rw [if_neg c5] at H
        have c5b0 : decide (x8_1 < t393) = false := decide_eq_false c5
        clear c5
        obtain rfl := Option.some.inj H
        go_wp2
        go_ret
        exact ⟨_, by first | rfl | (simp [errW_none, errW_some] <;> rfl) | (simp [*, errW_none, errW_some] <;> rfl), by (with_reducible repeat (first | apply Kd.S_alloc | apply Kd.S_drewN | apply Kd.S_drew)); exact HO_3.out, by repeat (first | (with_reducible first | exact HB.out | apply below_alloc | apply pw_below_drewN | apply below_drew1) | exact HB.out)⟩

/-! ### slices_Equal_int_int: function 177 -/
def slices_Equal_int_int.l0 : Nat → List Int → List Int → Int → Int → Option (Bool)
  | 0, _, _, _, _ => none
  | k + 1, x0, x1, x12, x13 => if x13 < x12 then (if 0 ≤ x13 then (if x13 < (x0.length : Int) then (if x13 < (x1.length : Int) then (if (rd x0 x13) = (rd x1 x13) then (slices_Equal_int_int.l0 k x0 x1 x12 (wrap64 (x13 + 1))) else (some false)) else (none)) else (none)) else (none)) else (some true)
def slices_Equal_int_int.f (k : Nat) (l0 : List Int) (l1 : List Int) : Option (Bool) := if (l0.length : Int) = (l1.length : Int) then (slices_Equal_int_int.l0 k l0 l1 (l0.length : Int) 0) else (some false)
theorem slices_Equal_int_int.mono_l : ∀ k, (∀ y0 y1 y2 y3, LeO (slices_Equal_int_int.l0 k y0 y1 y2 y3) (slices_Equal_int_int.l0 (k + 1) y0 y1 y2 y3))
  | 0 => fun _ _ _ _ r h => by simp [slices_Equal_int_int.l0] at h
  | k + 1 => by
    have ih0 := slices_Equal_int_int.mono_l k
    · intro y0 y1 y2 y3
      unfold slices_Equal_int_int.l0
      repeat' first
      | (with_reducible exact ih0 _ _ _ _)
      | (with_reducible exact LeO.refl _)
      | (with_reducible exact LeO.none _)
      | (with_reducible refine LeO.ite ?_ ?_)
      | (with_reducible refine LeO.bind ?_ (fun _ => ?_))
      | exact ih0 _ _ _ _
      | exact LeO.none _
      | refine LeO.ite ?_ ?_
      | refine LeO.bind ?_ (fun _ => ?_)
theorem slices_Equal_int_int.mono : ∀ a0 a1 k, LeO (slices_Equal_int_int.f k a0 a1) (slices_Equal_int_int.f (k + 1) a0 a1) := by
  intro a0 a1 k
  have ih0 := slices_Equal_int_int.mono_l k
  unfold slices_Equal_int_int.f
  repeat' first
      | (with_reducible exact ih0 _ _ _ _)
      | (with_reducible exact LeO.refl _)
      | (with_reducible exact LeO.none _)
      | (with_reducible refine LeO.ite ?_ ?_)
      | (with_reducible refine LeO.bind ?_ (fun _ => ?_))
      | exact ih0 _ _ _ _
      | exact LeO.none _
      | refine LeO.ite ?_ ?_
      | refine LeO.bind ?_ (fun _ => ?_)
set_option maxHeartbeats 8000000 in
set_option maxRecDepth 100000 in
theorem slices_Equal_int_int.calls (k : Nat) (A0 : Option Addr) (c0 : Nat) (l0 : List Int) (A1 : Option Addr) (c1 : Nat) (l1 : List Int) (r : Bool) (w : World) (hr0 : Kd.C (Kd.int .i64) w A0 l0.length l0) (hc0 : l0.length ≤ c0) (hr1 : Kd.C (Kd.int .i64) w A1 l1.length l1) (hc1 : l1.length ≤ c1) (h : slices_Equal_int_int.f k l0 l1 = some r) :
    Calls Try.prog 177 #[.slice A0 l0.length c0, .slice A1 l1.length c1] w fun e w' => e = .returned (.bool r) ∧ Drawn0 w w' := by
  have HR0 := Aside0.mk hr0
  have HC0 := Aside0.mk hc0
  clear hr0 hc0
  have HR1 := Aside0.mk hr1
  have HC1 := Aside0.mk hc1
  clear hr1 hc1
  have H : (if (l0.length : Int) = (l1.length : Int) then (slices_Equal_int_int.l0 k l0 l1 (l0.length : Int) 0) else (some false)) = some r := h
  clear h
  by_cases c3 : (l0.length : Int) = (l1.length : Int)
  · rw [if_pos c3] at H
    have c3b0 : ((l0.length : Int) == (l1.length : Int)) = true := beq_iff_eq.mpr c3
    have c3b1 : ((l0.length : Int) != (l1.length : Int)) = false := bne_eq_false_iff_eq.mpr c3
    have c3b2 : (l0.length == l1.length) = true := by first | simpa using c3 | (simp at c3 ⊢; omega)
    clear c3
    have H' := Aside0.mk H
    clear H
    go_enter Try.func177, Try.ntmps177
    go_wp2
    repeat (go_quiet (fail); try go_wp2)
    go_loopg [13] k (fun kq v13 w' => ∃ (x13_1 : Int), v13 = .int .i64 x13_1 ∧ Aside0 (slices_Equal_int_int.l0 kq l0 l1 (l0.length : Int) x13_1 = some r) ∧ Aside0 (kq ≤ k) ∧ Drawn0 w w')
    case atStart => exact ⟨(0), (by first | rfl | (simp; done) | (simp [*]; done)), H', ⟨Nat.le_refl _⟩, by repeat (first | exact Drawn0.refl _ | apply Drawn0.step)⟩
    case round =>
      clear H'
      try clear c1
      try clear p2
      try clear c3
      try clear c3b0
      try clear c3b1
      try clear c3b2
      obtain ⟨x13_1, rfl, HA, HK1, ⟨m1, rfl⟩⟩ := hrel
      cases gk with
      | zero => exact absurd HA.out (by simp [slices_Equal_int_int.l0])
      | succ k1 =>
        have H := HA.out
        clear HA
        simp only [slices_Equal_int_int.l0] at H
        by_cases c4 : x13_1 < (l0.length : Int)
        · rw [if_pos c4] at H
          have c4b0 : decide (x13_1 < (l0.length : Int)) = true := decide_eq_true c4
          clear c4
          by_cases c5 : 0 ≤ x13_1
          · rw [if_pos c5] at H
            have c5b0 : decide (0 ≤ x13_1) = true := decide_eq_true c5
            clear c5
            by_cases c6 : x13_1 < (l0.length : Int)
            · rw [if_pos c6] at H
              have c6b0 : decide (x13_1 < (l0.length : Int)) = true := decide_eq_true c6
              clear c6
              by_cases c7 : x13_1 < (l1.length : Int)
              · rw [if_pos c7] at H
                have c7b0 : decide (x13_1 < (l1.length : Int)) = true := decide_eq_true c7
                clear c7
                by_cases c8 : (rd l0 x13_1) = (rd l1 x13_1)
                · rw [if_pos c8] at H
                  have c8b0 : ((rd l0 x13_1) == (rd l1 x13_1)) = true := beq_iff_eq.mpr c8
                  have c8b1 : ((rd l0 x13_1) != (rd l1 x13_1)) = false := bne_eq_false_iff_eq.mpr c8
                  clear c8
                  have H' := Aside0.mk H
                  clear H
                  have p400 : 0 ≤ (x13_1 : Int) := of_decide_eq_true (by first | (with_reducible assumption) | assumption)
                  have q400 : x13_1 < (l0.length : Int) := of_decide_eq_true (by first | (with_reducible assumption) | assumption)
                  obtain ⟨ad400, e400, hx400_0⟩ := Kd.at_int HR0.out x13_1 p400 q400
                  cases e400
                  replace p400 := eq_true p400
                  replace q400 := eq_true q400
                  have p401 : 0 ≤ (x13_1 : Int) := of_decide_eq_true (by first | (with_reducible assumption) | assumption)
                  have q401 : x13_1 < (l1.length : Int) := of_decide_eq_true (by first | (with_reducible assumption) | assumption)
                  obtain ⟨ad401, e401, hx401_0⟩ := Kd.at_int HR1.out x13_1 p401 q401
                  cases e401
                  replace p401 := eq_true p401
                  replace q401 := eq_true q401
                  go_wp2
                  repeat (go_quiet (fail); try go_wp2)
                  go_roundg k1
                  case measure => have := HK1.out; omega
                  case rel => exact ⟨(wrap64 (x13_1 + 1)), (by first | rfl | (simp; done) | (simp [*]; done)), H', ⟨by have := HK1.out; omega⟩, by repeat (first | exact Drawn0.refl _ | apply Drawn0.step)⟩
                · rw [if_neg c8] at H
                  have c8b0 : ((rd l0 x13_1) == (rd l1 x13_1)) = false := beq_eq_false_iff_ne.mpr c8
                  have c8b1 : ((rd l0 x13_1) != (rd l1 x13_1)) = true := bne_iff_ne.mpr c8
                  obtain rfl := Option.some.inj H
                  have p400 : 0 ≤ (x13_1 : Int) := of_decide_eq_true (by first | (with_reducible assumption) | assumption)
                  have q400 : x13_1 < (l0.length : Int) := of_decide_eq_true (by first | (with_reducible assumption) | assumption)
                  obtain ⟨ad400, e400, hx400_0⟩ := Kd.at_int HR0.out x13_1 p400 q400
                  cases e400
                  replace p400 := eq_true p400
                  replace q400 := eq_true q400
                  have p401 : 0 ≤ (x13_1 : Int) := of_decide_eq_true (by first | (with_reducible assumption) | assumption)
                  have q401 : x13_1 < (l1.length : Int) := of_decide_eq_true (by first | (with_reducible assumption) | assumption)
                  obtain ⟨ad401, e401, hx401_0⟩ := Kd.at_int HR1.out x13_1 p401 q401
                  cases e401
                  replace p401 := eq_true p401
                  replace q401 := eq_true q401
                  go_wp2
                  repeat (go_quiet (fail); try go_wp2)
                  go_ret
                  exact ⟨by first | rfl | (simp; done) | (simp [*]; done), by repeat (first | exact Drawn0.refl _ | apply Drawn0.step)⟩
              · rw [if_neg c7] at H
                exact absurd H (by simp)
            · rw [if_neg c6] at H
              exact absurd H (by simp)
          · rw [if_neg c5] at H
            exact absurd H (by simp)
        · rw [if_neg c4] at H
          have c4b0 : decide (x13_1 < (l0.length : Int)) = false := decide_eq_false c4
          clear c4
          obtain rfl := Option.some.inj H
          go_wp2
          repeat (go_quiet (fail); try go_wp2)
          go_ret
          exact ⟨by first | rfl | (simp; done) | (simp [*]; done), by repeat (first | exact Drawn0.refl _ | apply Drawn0.step)⟩
  · rw [if_neg c3] at H
    have c3b0 : ((l0.length : Int) == (l1.length : Int)) = false := beq_eq_false_iff_ne.mpr c3
    have c3b1 : ((l0.length : Int) != (l1.length : Int)) = true := bne_iff_ne.mpr c3
    have c3b2 : (l0.length == l1.length) = false := by first | simpa using c3 | (simp at c3 ⊢; omega)
    obtain rfl := Option.some.inj H
    go_enter Try.func177, Try.ntmps177
    go_wp2
    repeat (go_quiet (fail); try go_wp2)
    go_ret
    exact ⟨by first | rfl | (simp; done) | (simp [*]; done), by repeat (first | exact Drawn0.refl _ | apply Drawn0.step)⟩

/-! ### impl_SweptFrom: function 41 -/
section
open Go.Proofs.Ytlkddcabjcejdaa.Base
set_option maxHeartbeats 8000000 in
set_option maxRecDepth 100000 in
theorem indexFunc_sw (c1_ : Value) (bad : List Int → Bool) (rows : List (List Int)) (A0 : Option Addr) (c0 : Nat) (w : World) (hr0 : Kd.C (Kd.slice 3 (Kd.int .i64)) w A0 rows.length rows) (hc0 : rows.length ≤ c0) (hlen : rows.length ≤ 4611686018427387904)
    (hcb : ∀ W A c xs, Below w.heap.size w W → xs ∈ rows → Kd.C (Kd.int .i64) W A xs.length xs → xs.length ≤ c → Calls Try.prog 176 #[.slice A xs.length c, c1_] W fun e w' => e = .returned (.bool (bad xs)) ∧ Below W.heap.size W w') :
    Calls Try.prog 253 #[.slice A0 rows.length c0, .func (.func 176) #[] #[c1_]] w fun e w' => e = .returned (.int .i64 (idxGo bad rows 0)) ∧ Below w.heap.size w w' := by
  have HR0 := Aside0.mk hr0
  have HCB := Aside0.mk hcb
  obtain ⟨R, hR⟩ : ∃ R, idxGo bad rows 0 = R := ⟨_, rfl⟩
  rw [hR]
  have HP := Aside0.mk hR
  clear hR hr0 hcb
  go_enter Try.func253, Try.ntmps253
  go_wp2
  go_loopg [8] rows.length (fun kq v8 wr => ∃ (pre suf : List (List Int)), v8 = .int .i64 (pre.length : Int) ∧ kq = suf.length ∧ Aside0 (rows = pre ++ suf) ∧ Aside0 (idxGo bad suf (pre.length : Int) = R) ∧ Aside0 (Below w.heap.size w wr))
  case atStart => exact ⟨[], rows, rfl, rfl, ⟨rfl⟩, HP, ⟨Below.refl _ _⟩⟩
  case round =>
    clear HP
    obtain ⟨pre, suf, rfl, rfl, HL, HP, HB⟩ := hrel
    cases suf with
    | nil =>
      have hl : rows.length = pre.length := by rw [HL.out]; simp
      have hg : ¬ ((pre.length : Int) < (rows.length : Int)) := by omega
      have hgb : decide ((pre.length : Int) < (rows.length : Int)) = false := decide_eq_false hg
      have e := HP.out
      simp only [idxGo] at e
      subst e
      clear hl
      go_wp2
      go_ret
      exact ⟨rfl, HB.out⟩
    | cons x t =>
      have hl : rows.length = pre.length + (t.length + 1) := by rw [HL.out]; simp
      have hg : (pre.length : Int) < (rows.length : Int) := by omega
      have hgb : decide ((pre.length : Int) < (rows.length : Int)) = true := decide_eq_true hg
      have hrd : rows.getD pre.length [] = x := by rw [HL.out]; simp
      obtain ⟨ad, A1, c1, e1, hx, hl1, hi1⟩ := row_at HR0.out (pre.length : Int) (by omega) hg
      cases e1
      rw [show ((pre.length : Int)).toNat = pre.length by omega, hrd] at hx hl1 hi1
      replace hx := pw_cell_below_ HB.out hx
      have HI1 := Aside0.mk (Kd.C_below hi1 HB.out)
      have HL1 := Aside0.mk hl1
      have HM := Aside0.mk (show x ∈ rows by rw [HL.out]; simp)
      have hb1 : (pre.length : Int) ≤ 4611686018427387904 := by omega
      clear hl hrd hi1 hl1
      cases hbx : bad x with
      | true =>
        have H := HCB.out wr A1 c1 x HB.out HM.out HI1.out HL1.out
        rw [hbx] at H
        have HH := Aside0.mk H
        have e := HP.out
        simp only [idxGo, hbx, if_true] at e
        subst e
        clear H hbx
        go_wp2_with (go_at_call 176; refine HH.out.mono ?_; rintro e_ w2 ⟨rfl, hb2⟩; have HX := Aside0.mk hb2; clear hb2)
        go_ret
        exact ⟨rfl, below_step HB.out HX.out⟩
      | false =>
        have H := HCB.out wr A1 c1 x HB.out HM.out HI1.out HL1.out
        rw [hbx] at H
        have HH := Aside0.mk H
        have e := HP.out
        simp only [idxGo, hbx, Bool.false_eq_true, if_false] at e
        have HP2 := Aside0.mk e
        clear H hbx e
        go_wp2_with (go_at_call 176; refine HH.out.mono ?_; rintro e_ w2 ⟨rfl, hb2⟩; have HX := Aside0.mk hb2; clear hb2)
        go_roundg t.length
        case measure => simp
        case rel => exact ⟨pre ++ [x], t, by simp, rfl, ⟨by rw [HL.out]; simp⟩, ⟨by have := HP2.out; simpa using this⟩, ⟨below_step HB.out HX.out⟩⟩
set_option maxHeartbeats 8000000 in
set_option maxRecDepth 100000 in
theorem containsFunc_sw (c1_ : Value) (bad : List Int → Bool) (rows : List (List Int)) (A0 : Option Addr) (c0 : Nat) (w : World) (hr0 : Kd.C (Kd.slice 3 (Kd.int .i64)) w A0 rows.length rows) (hc0 : rows.length ≤ c0) (hlen : rows.length ≤ 4611686018427387904)
    (hcb : ∀ W A c xs, Below w.heap.size w W → xs ∈ rows → Kd.C (Kd.int .i64) W A xs.length xs → xs.length ≤ c → Calls Try.prog 176 #[.slice A xs.length c, c1_] W fun e w' => e = .returned (.bool (bad xs)) ∧ Below W.heap.size W w') :
    Calls Try.prog 260 #[.slice A0 rows.length c0, .func (.func 176) #[] #[c1_]] w fun e w' => e = .returned (.bool (rows.any bad)) ∧ Below w.heap.size w w' := by
  have H := indexFunc_sw c1_ bad rows A0 c0 w hr0 hc0 hlen hcb
  have hi := idxGo_any bad rows 0 (by omega)
  obtain ⟨R, hR⟩ : ∃ R, idxGo bad rows 0 = R := ⟨_, rfl⟩
  rw [hR] at H hi
  rw [← hi]
  have HH := Aside0.mk H
  clear H hi hR hcb hr0
  cases hd : decide (0 ≤ R) with
  | true =>
    have h0 : 0 ≤ R := of_decide_eq_true hd
    clear hd
    go_enter Try.func260, Try.ntmps260
    go_wp2_with (go_at_call 253; refine HH.out.mono ?_; rintro e_ w2 ⟨rfl, hb2⟩; have HX := Aside0.mk hb2; clear hb2)
    go_ret
    exact ⟨by simp [h0], HX.out⟩
  | false =>
    have h0 : ¬ 0 ≤ R := of_decide_eq_false hd
    clear hd
    go_enter Try.func260, Try.ntmps260
    go_wp2_with (go_at_call 253; refine HH.out.mono ?_; rintro e_ w2 ⟨rfl, hb2⟩; have HX := Aside0.mk hb2; clear hb2)
    go_ret
    exact ⟨by simp [h0], HX.out⟩
set_option maxHeartbeats 8000000 in
set_option maxRecDepth 100000 in
theorem deleteFunc_sw (c1_ : Value) (bad : List Int → Bool) (xs : List (List Int)) (w : World) (base g cap : Nat) (ok : Nat → Prop) (hS : Kd.S (Kd.slice 3 (Kd.int .i64)) 22 w base ok (.slice (some ⟨g, 0, none⟩) xs.length cap) xs) (hlen : xs.length ≤ 4611686018427387904)
    (hcb : ∀ W A c x, Fr (fun k => k = g) w W → x ∈ xs → Kd.C (Kd.int .i64) W A x.length x → x.length ≤ c → Calls Try.prog 176 #[.slice A x.length c, c1_] W fun e w' => e = .returned (.bool (bad x)) ∧ Below W.heap.size W w') :
    Calls Try.prog 174 #[.slice (some ⟨g, 0, none⟩) xs.length cap, .func (.func 176) #[] #[c1_]] w fun e w' => e = .returned (.slice (some ⟨g, 0, none⟩) (xs.filter (fun x => !bad x)).length cap) ∧ Kd.S (Kd.slice 3 (Kd.int .i64)) 22 w' base (fun _ => True) (.slice (some ⟨g, 0, none⟩) (xs.filter (fun x => !bad x)).length cap) (xs.filter (fun x => !bad x)) ∧ Fr (fun k => k = g) w w' := by
  have HI := Aside0.mk (indexFunc_sw c1_ bad xs (some ⟨g, 0, none⟩) cap w (Kd.S_reads' hS).2.2 (Kd.S_reads' hS).2.1 hlen (fun W A c x hb hx hC hc => hcb W A c x (Fr.of_below hb) hx hC hc))
  have HCB := Aside0.mk hcb
  have HS := Aside0.mk hS
  obtain ⟨R, hR⟩ : ∃ R, idxGo bad xs 0 = R := ⟨_, rfl⟩
  rw [hR] at HI
  have hi := idxGo_iff bad xs 0 (Int.le_refl _)
  rw [hR] at hi
  by_cases hneg : 0 ≤ R
  · obtain ⟨pre0, c0, suf0, hxs, hRe, hgood, hbad⟩ := idxGo_split bad xs 0 R (Int.le_refl _) hR hneg
    rw [Int.zero_add] at hRe
    obtain ⟨cs, ps, hblk, hbg, hcl, _, hnc, hcm, htk, hsnd, hV⟩ := S_open hS
    have hpl : ps.length = xs.length := by rw [← hsnd]; simp
    obtain ⟨pre1, suf1, hDI, hpre1⟩ := DI.start (bad := bad) (cap := cap) (cs := cs) (by rw [hsnd]; exact hxs) hcl (by omega) (by rw [hpl]; exact htk) hgood hbad
    have HV := Aside0.mk hV
    have HSND := Aside0.mk hsnd
    have HPL := Aside0.mk hpl
    have HBLK := Aside0.mk hblk
    have HDI := Aside0.mk hDI
    have HP1 := Aside0.mk hpre1
    have HCM := Aside0.mk (And.intro hbg (And.intro hnc hcm))
    have hpre : (pre0.length : Int) ≤ 4611686018427387903 := by have := congrArg List.length hxs; simp at this; omega
    have hR1 : ((pre0.length : Int) == -1) = false := by simp
    have hw1 : wrap64 ((pre0.length : Int) + 1) = (pre0.length : Int) + 1 := by unfold wrap64; omega
    subst hRe
    clear hS hcb hR hi hneg hgood hbad hblk htk hsnd hV hDI hpl hcm hxs hcl hpre1 hbg hnc
    go_enter Try.func174, Try.ntmps174
    go_wp2_with (go_at_call 253; refine HI.out.mono ?_; rintro e_ w2 ⟨rfl, hb2⟩; have HB2 := Aside0.mk hb2; clear hb2)
    go_loopg [5, 6] suf1.length (fun kq v5 v6 wr => ∃ (pre suf : List (Value × List Int)) (cs : List Value) (i : Nat), v5 = .int .i64 (i : Int) ∧ v6 = .int .i64 (pre.length : Int) ∧ kq = suf.length ∧ Aside0 (wr.heap[g]? = some (.cells cs.toArray 22 (0, 0))) ∧ Aside0 (DI bad cap ps cs pre suf i) ∧ Aside0 (Fr (fun k => k = g) w wr))
    case atStart =>
      refine ⟨pre1, suf1, cs, pre0.length, rfl, ?_, rfl, ⟨blk_fr HBLK.out (Fr.of_below (S := fun _ => False) HB2.out) (fun h => h)⟩, HDI, ⟨Fr.of_below HB2.out⟩⟩
      rw [HP1.out]; simp
    case round =>
      clear HI HB2 HDI HP1 hw1 hR1
      obtain ⟨pre, suf, cs, i, rfl, rfl, rfl, HBK, HD, HF⟩ := hrel
      have hbd := HD.out.bound
      have hpl := HPL.out
      have hlt := HD.out.lt
      have hcl := HD.out.len
      obtain ⟨_, hnc, hcm⟩ := HCM.out
      cases suf with
      | nil =>
        simp only [List.length_nil, Nat.add_zero] at hbd
        have hg : ¬ ((pre.length : Int) < (xs.length : Int)) := by omega
        have hgb : decide ((pre.length : Int) < (xs.length : Int)) = false := decide_eq_false hg
        have hcells : ∀ t, t < xs.length - i → (wr.cell? ⟨g, i + t, none⟩).isSome = true := fun t ht => by
          rw [blk_cell HBK.out]
          have : i + t < cs.length := by omega
          simp [List.getElem?_eq_getElem this]
        have hcl0 := fun ty => Lib.run_clear_slice (P := Try.prog) wr 28 22 ty (.slice none 0 0) Try.underlying28 Try.zeroValue22 rfl rfl g i (xs.length - i) (cap - i) (by omega) hcells (fun t _ => blk_frozen HBK.out _)
        obtain ⟨cur, hb2, hs2, hl2⟩ := setCells_row (List.replicate (xs.length - i) (.slice none 0 0)) i wr cs.toArray HBK.out (by simp; omega)
        have hFr : Fr (fun k => k = g) w (wr.setCells g i (List.replicate (xs.length - i) (.slice none 0 0))) := HF.out.trans (Fr.setCells (S := fun k => k = g) rfl _ _ _)
        have hkeep : (ps.filter (fun p => !bad p.2)).map (·.2) = xs.filter (fun x => !bad x) := by
          rw [← HSND.out, List.filter_map]; rfl
        have hall := HD.out.all
        rw [List.append_nil] at hall
        have hki := HD.out.ki
        have hhd := HD.out.head
        rw [← hall] at hki hhd
        have hil : (xs.filter (fun x => !bad x)).length = i := by rw [← hkeep, List.length_map, hki]
        have hcur : cur.toList.take i = (ps.filter (fun p => !bad p.2)).map (·.1) := by
          rw [hl2, List.take_append_of_le_length (by simp; omega), List.take_append_of_le_length (by simp; omega)]
          rw [← hhd, List.take_take, Nat.min_self]
        have hsz : cur.toList.length = cap := by rw [Array.length_toList, hs2]; simpa using hcl
        have hclose := S_close (base := base) (cs := cur.toList) (by simpa using hb2) HCM.out.1 (show i ≤ cur.toList.length by omega) (by rw [hsz]; exact hcm) hcur ((HV.out.fr hFr).sub List.filter_sublist)
        rw [hkeep, hsz] at hclose
        have HIL := Aside0.mk hil
        have HX := Aside0.mk (And.intro hclose hFr)
        have hic : i < cap := by omega
        have hic2 : ¬ cap = i := by omega
        have hii : (i : Int) ≤ (xs.length : Int) := by omega
        clear hclose hFr hkeep hall hki hhd hil hcur hsz hb2 hs2 hl2 hcells hlt hbd hcl hpl
        go_wp2
        go_ret
        exact ⟨by rw [HIL.out]; rfl, by rw [HIL.out]; exact HX.out.1, HX.out.2⟩
      | cons p t =>
        simp only [List.length_cons] at hbd
        have hg : (pre.length : Int) < (xs.length : Int) := by omega
        have hgb : decide ((pre.length : Int) < (xs.length : Int)) = true := decide_eq_true hg
        obtain ⟨v, x⟩ := p
        have hpm : (v, x) ∈ ps := by rw [HD.out.all]; simp
        obtain ⟨A, c, e⟩ := Kd.R_slice (HV.out.row _ hpm)
        simp only at e
        subst e
        have hR := (HV.out.fr HF.out).row _ hpm
        have hcell : wr.cell? ⟨g, pre.length, none⟩ = some (.slice A x.length c) := by rw [blk_cell HBK.out]; simpa using HD.out.cell
        have hxm : x ∈ xs := by rw [← HSND.out]; exact List.mem_map_of_mem (f := (·.2)) hpm
        have H := HCB.out wr A c x HF.out hxm (Kd.R_reads' hR).2.2 (Kd.R_reads' hR).2.1
        have hb1 : (pre.length : Int) ≤ 4611686018427387904 := by omega
        have hib : (i : Int) ≤ 4611686018427387904 := by omega
        have hix : (i : Int) < (xs.length : Int) := by omega
        have hixn : i < xs.length := by omega
        have hold : ∃ old, cs[i]? = some old := ⟨cs[i]'(by omega), List.getElem?_eq_getElem _⟩
        obtain ⟨old, hold⟩ := hold
        have HOLD := Aside0.mk hold
        clear hR hbd hpl hlt hcl hold hxm hpm
        cases hbx : bad x with
        | true =>
          rw [hbx] at H
          have HH := Aside0.mk H
          have HBX := Aside0.mk hbx
          clear H hbx
          go_wp2_with (go_at_call 176; refine HH.out.mono ?_; rintro e_ w6 ⟨rfl, hb6⟩; have HX := Aside0.mk hb6; clear hb6)
          go_roundg t.length
          case measure => simp
          case rel => exact ⟨pre ++ [(.slice A x.length c, x)], t, cs, i, rfl, by simp [wrap64], rfl, ⟨blk_below HBK.out HX.out⟩, ⟨HD.out.skip HBX.out⟩, ⟨HF.out.trans (Fr.of_below HX.out)⟩⟩
        | false =>
          rw [hbx] at H
          have HH := Aside0.mk H
          have HBX := Aside0.mk hbx
          clear H hbx
          go_wp2_with (go_at_call 176; refine HH.out.mono ?_; rintro e_ w6 ⟨rfl, hb6⟩; have HX := Aside0.mk hb6; have ci := (blk_cell (blk_below HBK.out hb6) i).trans (show cs.toArray[i]? = some old by simpa using HOLD.out); have fi := blk_frozen (blk_below HBK.out hb6) i; clear hb6)
          go_roundg t.length
          case measure => simp
          case rel => exact ⟨pre ++ [(.slice A x.length c, x)], t, cs.set i (.slice A x.length c), i + 1, by simp [wrap64], by simp [wrap64], rfl, ⟨by have := blk_set (blk_below HBK.out HX.out) i (.slice A x.length c); simpa using this⟩, ⟨HD.out.keep HBX.out⟩, ⟨(HF.out.trans (Fr.of_below HX.out)).trans (Fr.set (S := fun k => k = g) rfl _ _)⟩⟩
  · have hn : xs.any bad = false := by
      cases h : xs.any bad with
      | false => rfl
      | true => exact absurd (hi.2 h) hneg
    have hf : xs.filter (fun x => !bad x) = xs := by
      rw [List.filter_eq_self]
      intro x hx
      have := (List.any_eq_false.1 hn) x hx
      simpa using this
    have hm : R = -1 := by
      have key : ∀ (s : List (List Int)) (i : Int), (∀ x ∈ s, ¬ bad x = true) → idxGo bad s i = -1 := by
        intro s
        induction s with
        | nil => intro i _; rfl
        | cons c s ih =>
          intro i h
          simp only [idxGo]
          rw [if_neg (h c (by simp))]
          exact ih _ (fun x hx => h x (by simp [hx]))
      rw [← hR]; exact key xs 0 (List.any_eq_false.1 hn)
    subst hm
    rw [hf]
    clear hS hcb hR hi hneg hn hf
    go_enter Try.func174, Try.ntmps174
    go_wp2_with (go_at_call 253; refine HI.out.mono ?_; rintro e_ w2 ⟨rfl, hb2⟩; have HB2 := Aside0.mk hb2; clear hb2)
    go_ret
    exact ⟨rfl, Kd.S_mono (Kd.S_below HS.out HB2.out) (fun _ _ => trivial), Fr.of_below HB2.out⟩
set_option maxHeartbeats 8000000 in
set_option maxRecDepth 100000 in
theorem SweptFrom_cb (k : Nat) (l : List Int) (A0 : Option Addr) (c0 : Nat) (gl : Nat) (w0 W : World) (hb0 : Below w0.heap.size w0 W) (hgl : W.heap[gl]? = some (.cells #[.slice A0 l.length c0] 22 (0, 0))) (hl0 : Kd.C (Kd.int .i64) w0 A0 l.length l) (hc0 : l.length ≤ c0)
    (A : Option Addr) (c : Nat) (x t : List Int) (b : Bool) (ht : impl_sweep.f k x = some t) (he : slices_Equal_int_int.f k t l = some b) (hC : Kd.C (Kd.int .i64) W A x.length x) (hc : x.length ≤ c) :
    Calls Try.prog 176 #[.slice A x.length c, .pointer (some ⟨gl, 0, none⟩)] W fun e w' => e = .returned (.bool (!b)) ∧ Below W.heap.size W w' := by
  have HL := Aside0.mk hgl
  have HC := Aside0.mk hC
  have HT := Aside0.mk ht
  have HE := Aside0.mk he
  have HL0 := Aside0.mk hl0
  clear hgl hC ht he hl0
  go_enter Try.func176, Try.ntmps176
  go_wp2_with (fail)
  refine start_ (n := 6) (S := fun w' => w'.cell? ⟨gl, 0, none⟩ = some (.slice A0 l.length c0)) (ds := []) #[false, false, false, false, false, false] (by kernel_rfl) rfl rfl (cell_of_one HL.out) (fun hHeld => ?_)
  replace HL := Aside0.mk (blk_below HL.out (below_drew (Below.refl _ _)))
  replace HC := Aside0.mk (Kd.C_drew HC.out)
  replace hb0 := below_drew hb0
  have HSZ := Aside0.mk hb0.size
  have HW := Aside0.mk (below_drew (Below.refl W.heap.size W))
  generalize W.drew = w1 at HL HC hHeld hb0 HSZ HW ⊢
  have HB := Aside0.mk (Below.refl w1.heap.size w1)
  refine pure_ (i := 0) (N := some 4) (v := ?_) (a' := ?_) #[true, false, false, false, false, false] rfl rfl (by kernel_rfl) (fun _ _ _ h => h) (Or.inl ⟨by rfl, ?_⟩) ?_ ?_
  rotate_left
  · intro w'
    go_simp
    with_reducible rfl
  rotate_left
  · simp only [Act.put, List.setIfInBounds_toArray, List.set_cons_zero, List.set_cons_succ, i64_w, i32_w]
    rfl
  refine take_ (i := 2) (N := some 6) (v := ?_) (a' := ?_) #[true, false, true, false, false, false] rfl rfl (by kernel_rfl) (fun _ _ _ h => h) (Or.inl ⟨by rfl, ?_⟩) hHeld ?_ ?_
  rotate_left
  · intro w' s0
    go_simp
    with_reducible rfl
  rotate_left
  · simp only [Act.put, List.setIfInBounds_toArray, List.set_cons_zero, List.set_cons_succ, i64_w, i32_w]
    rfl
  refine one_ (i := 1) (N := some 5) #[true, true, true, false, false, false] rfl rfl (by kernel_rfl) (by decide) (fun K hK => ?_)
  refine goes_ Try.func168 (by kernel_rfl) rfl #[.slice A x.length c] (by rfl) rfl rfl (by simp only [List.map_toArray, List.map_cons, List.map_nil]; rfl) ?_
  with_reducible refine (impl_sweep.calls k A c x t _ (Kd.C_below HC.out HB.out) hc HT.out).mono ?_
  rintro e_ w2 ⟨v5, rfl, hR5, hb2⟩
  replace HB := Aside0.mk (below_step HB.out hb2)
  obtain ⟨A5, c5, e5⟩ := Kd.R_slice hR5
  subst e5
  have HR5 := Aside0.mk hR5
  clear hR5 hb2
  refine ⟨_, rfl, ?_⟩
  refine hK.out _ _ (cell_of_one (blk_below HL.out HB.out)) (fun hHeld => ?_)
  clear hK K
  refine norm_ (a' := ?_) ?_ ?_
  rotate_left
  · show Act.put _ (some 5) _ = _
    simp only [Act.put, List.setIfInBounds_toArray, List.set_cons_zero, List.set_cons_succ, i64_w, i32_w]
    rfl
  refine one_ (i := 3) (N := some 7) #[true, true, true, true, false, false] rfl rfl (by kernel_rfl) (by decide) (fun K hK => ?_)
  refine goes_ Try.func177 (by kernel_rfl) rfl #[.slice A5 t.length c5, .slice A0 l.length c0] (by rfl) rfl rfl (by simp only [List.map_toArray, List.map_cons, List.map_nil]; rfl) ?_
  with_reducible refine (slices_Equal_int_int.calls k A5 c5 t A0 c0 l b _ (Kd.R_reads' HR5.out).2.2 (Kd.R_reads' HR5.out).2.1 (Kd.C_below HL0.out (hb0.trans (Go.Proofs.Ytlkddcabjcejdaa.Base.below_below HB.out (show w0.heap.size ≤ w1.heap.size from HSZ.out)))) hc0 HE.out).mono ?_
  rintro e_ w3 ⟨rfl, q3, rfl⟩
  refine ⟨_, rfl, ?_⟩
  refine hK.out _ _ (by first | exact hHeld | exact cell_of_one (blk_drewN (blk_below HL.out HB.out) _)) (fun hHeld => ?_)
  clear hK K
  refine norm_ (a' := ?_) ?_ ?_
  rotate_left
  · show Act.put _ (some 7) _ = _
    simp only [Act.put, List.setIfInBounds_toArray, List.set_cons_zero, List.set_cons_succ, i64_w, i32_w]
    rfl
  refine pure_ (i := 4) (N := some 8) (v := ?_) (a' := ?_) #[true, true, true, true, true, false] rfl rfl (by kernel_rfl) (fun _ _ _ h => h) (Or.inl ⟨by rfl, ?_⟩) ?_ ?_
  rotate_left
  · intro w'
    go_simp
    with_reducible rfl
  rotate_left
  · simp only [Act.put, List.setIfInBounds_toArray, List.set_cons_zero, List.set_cons_succ, i64_w, i32_w]
    rfl
  refine pure_ (i := 5) (N := some 3) (v := ?_) (a' := ?_) #[true, true, true, true, true, true] rfl rfl (by kernel_rfl) (fun _ _ _ h => h) (Or.inl ⟨by rfl, ?_⟩) ?_ ?_
  rotate_left
  · intro w'
    go_simp
    with_reducible rfl
  rotate_left
  · simp only [Act.put, List.setIfInBounds_toArray, List.set_cons_zero, List.set_cons_succ, i64_w, i32_w]
    rfl
  refine done_ (by kernel_rfl) ?_
  try go_wp2
  go_ret
  exact ⟨rfl, pw_below_drewN (below_then HW.out HW.out.size HB.out) _⟩
def impl_SweptFrom.g (k : Nat) (l0 x : List Int) : Option Bool := (impl_sweep.f k x).bind fun t => slices_Equal_int_int.f k t l0
def impl_SweptFrom.f (k : Nat) (l0 : List Int) : Option (List (List Int) × Bool) := (impl_isOrder.f k l0).bind fun t => (if t = true then ((impl_allOrders.f k (l0.length : Int)).bind fun rows => (if 0 < rows.length ∧ rows.length ≤ 4611686018427387904 then ((keepM (impl_SweptFrom.g k l0) rows).bind fun r => some (r, true)) else none)) else (some (([] : List (List Int)), false)))
theorem impl_SweptFrom.mono : ∀ a0 k, LeO (impl_SweptFrom.f k a0) (impl_SweptFrom.f (k + 1) a0) := by
  intro a0 k
  unfold impl_SweptFrom.f
  refine LeO.bind (impl_isOrder.mono _ _) (fun _ => LeO.ite (LeO.bind (impl_allOrders.mono _ _) (fun _ => LeO.ite (LeO.bind (keepM_mono (fun c => ?_) _) (fun _ => LeO.refl _)) (LeO.refl _))) (LeO.refl _))
  unfold impl_SweptFrom.g
  exact LeO.bind (impl_sweep.mono _ _) (fun _ => slices_Equal_int_int.mono _ _ _)
set_option maxHeartbeats 8000000 in
set_option maxRecDepth 100000 in
theorem impl_SweptFrom.calls (k : Nat) (A0 : Option Addr) (c0 : Nat) (l0 : List Int) (r1 : List (List Int)) (r2 : Bool) (w : World) (hr0 : Kd.C (Kd.int .i64) w A0 l0.length l0) (hc0 : l0.length ≤ c0) (h : impl_SweptFrom.f k l0 = some (r1, r2)) :
    Calls Try.prog 41 #[.slice A0 l0.length c0] w fun e w' => ∃ v0_ : Value, e = .returned (.tuple #[v0_, .bool r2]) ∧ Kd.S (Kd.slice 3 (Kd.int .i64)) 22 w' w.heap.size (fun _ => True) v0_ r1 ∧ Below w.heap.size w w' := by
  unfold impl_SweptFrom.f at h
  have h2 := Option.bind_eq_some_iff.1 h
  clear h
  obtain ⟨t, ht, h⟩ := h2
  have HT := Aside0.mk ht
  have HR0 := Aside0.mk hr0
  have HBX := Aside0.mk (blk_new w (Obj.cells #[Value.slice A0 l0.length c0] 22))
  have cbx := cell_of_one HBX.out
  have hmf : ∀ (fn : Fn) (first cap : Array Value) (w : World), (Instr.makeFunc fn first cap).run Try.prog w = .ok (.func fn first cap) w := fun _ _ _ _ => rfl
  clear ht hr0
  cases t with
  | false =>
    rw [if_neg (by decide)] at h
    simp only [Option.some.injEq, Prod.mk.injEq] at h
    obtain ⟨rfl, rfl⟩ := h
    go_enter Try.func41, Try.ntmps41
    go_wp2_with (go_at_call 146; refine (impl_isOrder.calls k A0 c0 l0 false _ (Kd.C_alloc HR0.out _) hc0 HT.out).mono ?_; rintro e_ w2 ⟨rfl, ⟨nd, rfl⟩⟩)
    go_ret2
    exact ⟨_, rfl, Kd.S_nil _ _ _ _ _, pw_below_drewN (below_alloc (Below.refl _ _) _) _⟩
  | true =>
    rw [if_pos rfl] at h
    have h2 := Option.bind_eq_some_iff.1 h
    clear h
    obtain ⟨rows, ho, h⟩ := h2
    by_cases hq : 0 < rows.length ∧ rows.length ≤ 4611686018427387904
    · rw [if_pos hq] at h
      have h2 := Option.bind_eq_some_iff.1 h
      clear h
      obtain ⟨r, hk, h⟩ := h2
      simp only [Option.some.injEq, Prod.mk.injEq] at h
      obtain ⟨rfl, rfl⟩ := h
      obtain ⟨hall, hre⟩ := keepM_some hk
      have HO := Aside0.mk ho
      have HALL := Aside0.mk hall
      have HQ := Aside0.mk hq
      have HRR := Aside0.mk hre
      have HBW := Aside0.mk (below_alloc (Below.refl w.heap.size w) (Obj.cells #[Value.slice A0 l0.length c0] 22))
      clear ho hall hq hk hre
      go_enter Try.func41, Try.ntmps41
      go_wp2_with (first | (go_at_call 146; refine (impl_isOrder.calls k A0 c0 l0 true _ (Kd.C_alloc HR0.out _) hc0 HT.out).mono ?_; rintro e_ w2 ⟨rfl, ⟨nd, rfl⟩⟩) | (go_at_call 175; refine (impl_allOrders.calls k (l0.length : Int) rows _ HO.out).mono ?_; rintro e_ w2 ⟨v2, rfl, hs2, hb2⟩; obtain ⟨g, cap, eg, gb, gl, _⟩ := Kd.S_form hs2 HQ.out.1; subst eg; have HS2 := Aside0.mk hs2; have HB2 := Aside0.mk (below_step (pw_below_drewN HBW.out nd) hb2); have HBK := Aside0.mk (blk_below (blk_drewN HBX.out nd) hb2); have HG := Aside0.mk (show w.heap.size + 1 ≤ g by simpa using gb); clear hs2 hb2 gb gl) | (go_at_call 174; refine (deleteFunc_sw (.pointer (some ⟨w.heap.size, 0, none⟩)) (fun x => !(impl_SweptFrom.g k l0 x == some true)) rows w2 _ g cap _ HS2.out HQ.out.2 (fun W A c x hF hx hC hc => ?cb)).mono ?_; (case cb => obtain ⟨b, hb⟩ := HALL.out x hx; obtain ⟨t_, ht_, he_⟩ := Option.bind_eq_some_iff.1 hb; have hh := SweptFrom_cb k l0 A0 c0 w.heap.size w W (HB2.out.trans (hF.below HB2.out.size (fun k_ hk => by have := HG.out; omega))) (blk_fr HBK.out hF (fun hk => by have := HG.out; omega)) HR0.out hc0 A c x t_ b ht_ he_ hC hc; rw [hb]; cases b <;> exact hh); rintro e_ w3 ⟨rfl, hs3, hf3⟩; have HS3 := Aside0.mk hs3; have HF3 := Aside0.mk hf3; clear hs3 hf3))
      go_ret2
      have hS := HS3.out
      simp only [Bool.not_not] at hS
      rw [← HRR.out] at hS
      have hg := HG.out
      refine ⟨_, by simp only [Bool.not_not, ← HRR.out]; rfl, Kd.S_lower hS (by simp), HB2.out.trans (HF3.out.below HB2.out.size (fun k_ hk => by omega))⟩
    · rw [if_neg hq] at h; cases h
end

/-! ### spec_l2Ways: function 193 -/
def spec_l2Ways.l0 : Nat → Int → Int → Int → Option (Int)
  | 0, _, _, _ => none
  | k + 1, x0, x3, x4 => if x4 ≤ x0 then (spec_l2Ways.l0 k x0 (wrap64 (x3 * x4)) (wrap64 (x4 + 1))) else (some x3)
def spec_l2Ways.f (k : Nat) (a0 : Int) : Option (Int) := spec_l2Ways.l0 k a0 1 2
theorem spec_l2Ways.mono_l : ∀ k, (∀ y0 y1 y2, LeO (spec_l2Ways.l0 k y0 y1 y2) (spec_l2Ways.l0 (k + 1) y0 y1 y2))
  | 0 => fun _ _ _ r h => by simp [spec_l2Ways.l0] at h
  | k + 1 => by
    have ih0 := spec_l2Ways.mono_l k
    · intro y0 y1 y2
      unfold spec_l2Ways.l0
      repeat' first
      | (with_reducible exact ih0 _ _ _)
      | (with_reducible exact LeO.refl _)
      | (with_reducible exact LeO.none _)
      | (with_reducible refine LeO.ite ?_ ?_)
      | (with_reducible refine LeO.bind ?_ (fun _ => ?_))
      | exact ih0 _ _ _
      | exact LeO.none _
      | refine LeO.ite ?_ ?_
      | refine LeO.bind ?_ (fun _ => ?_)
theorem spec_l2Ways.mono : ∀ a0 k, LeO (spec_l2Ways.f k a0) (spec_l2Ways.f (k + 1) a0) := by
  intro a0 k
  have ih0 := spec_l2Ways.mono_l k
  unfold spec_l2Ways.f
  repeat' first
      | (with_reducible exact ih0 _ _ _)
      | (with_reducible exact LeO.refl _)
      | (with_reducible exact LeO.none _)
      | (with_reducible refine LeO.ite ?_ ?_)
      | (with_reducible refine LeO.bind ?_ (fun _ => ?_))
      | exact ih0 _ _ _
      | exact LeO.none _
      | refine LeO.ite ?_ ?_
      | refine LeO.bind ?_ (fun _ => ?_)
set_option maxHeartbeats 8000000 in
set_option maxRecDepth 100000 in
theorem spec_l2Ways.calls (k : Nat) (a0 : Int) (r : Int) (w : World) (h : spec_l2Ways.f k a0 = some r) :
    Calls Try.prog 193 #[.int .i64 a0] w fun e w' => e = .returned (.int .i64 r) ∧ Drawn0 w w' := by
  have H : (spec_l2Ways.l0 k a0 1 2) = some r := h
  clear h
  have H' := Aside0.mk H
  clear H
  go_enter Try.func193, Try.ntmps193
  go_wp2
  go_loopg [3, 4] k (fun kq v3 v4 w' => ∃ (x3_1 : Int) (x4_1 : Int), v3 = .int .i64 x3_1 ∧ v4 = .int .i64 x4_1 ∧ Aside0 (spec_l2Ways.l0 kq a0 x3_1 x4_1 = some r) ∧ Aside0 (kq ≤ k) ∧ Drawn0 w w')
  case atStart => exact ⟨(1), (2), (by first | rfl | (simp; done) | (simp [*]; done)), (by first | rfl | (simp; done) | (simp [*]; done)), H', ⟨Nat.le_refl _⟩, by repeat (first | exact Drawn0.refl _ | apply Drawn0.step)⟩
  case round =>
    clear H'
    try clear c1
    obtain ⟨x3_1, x4_1, rfl, rfl, HA, HK1, ⟨m1, rfl⟩⟩ := hrel
    cases gk with
    | zero => exact absurd HA.out (by simp [spec_l2Ways.l0])
    | succ k1 =>
      have H := HA.out
      clear HA
      simp only [spec_l2Ways.l0] at H
      by_cases c2 : x4_1 ≤ a0
      · rw [if_pos c2] at H
        have c2b0 : decide (x4_1 ≤ a0) = true := decide_eq_true c2
        clear c2
        have H' := Aside0.mk H
        clear H
        go_wp2
        go_roundg k1
        case measure => have := HK1.out; omega
        case rel => exact ⟨(wrap64 (x3_1 * x4_1)), (wrap64 (x4_1 + 1)), (by first | rfl | (simp; done) | (simp [*]; done)), (by first | rfl | (simp; done) | (simp [*]; done)), H', ⟨by have := HK1.out; omega⟩, by repeat (first | exact Drawn0.refl _ | apply Drawn0.step)⟩
      · rw [if_neg c2] at H
        have c2b0 : decide (x4_1 ≤ a0) = false := decide_eq_false c2
        clear c2
        obtain rfl := Option.some.inj H
        go_wp2
        go_ret
        exact ⟨by first | rfl | (simp; done) | (simp [*]; done), by repeat (first | exact Drawn0.refl _ | apply Drawn0.step)⟩

end Go.Proofs.Ytlkddcabjcejdaa.MFnSweeps
