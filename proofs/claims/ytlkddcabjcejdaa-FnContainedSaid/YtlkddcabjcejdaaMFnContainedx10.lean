/- Functions that FnContained comes to, a walk for each: by wip/tools/mk.py and post.py. No condition. -/
import Derived.Test.YtlkddcabjcejdaaMFnContainedx0
import Derived.Test.YtlkddcabjcejdaaMFnContainedx3
import Derived.Test.YtlkddcabjcejdaaMFnContainedx9
namespace Go.Proofs.Ytlkddcabjcejdaa.MFnContained
open Go.RowKit Go.Proofs.YtlkddcabjcejdaaW.PrintWords Go.Proofs.YtlkddcabjcejdaaW.PrintLast Go.Proofs.YtlkddcabjcejdaaW.PrintMore
attribute [local go_sem] max2_int min2_int max_two min_two max_three min_three max_four min_four
set_option linter.unusedVariables false
set_option linter.unusedSimpArgs false

/-! ### spec_l1Cur_order: function 166 -/
def spec_l1Cur_order.l0 : Nat → List Int → Int → List Int → Int → Int → Option (List Int × Int × Int)
 | 0, _, _, _, _, _ => none
 | k + 1, x3, x4, x1000, x1001, x1002 => if x4 > 0 then ((spec_l1Cur_pick.f x1000 x1001 x1002 (wrap64 ((x3.length : Int) + 1))).bind fun bt327 => (if 0 ≤ bt327.1 then (if bt327.1 ≤ (x3.length : Int) then ((spec_l1Own.f (x3.take (bt327.1 : Int).toNat)).bind fun t334 => ((some (([wrap64 ((x3.length : Int) + 1)] : List Int) : List Int)).bind fun y337 => (if t334.length + y337.length < 17592186044416 then ((some (t334 ++ y337 : List Int)).bind fun y340 => ((some (x3.drop (bt327.1 : Int).toNat : List Int)).bind fun y343 => (if y340.length + y343.length < 17592186044416 then (spec_l1Cur_order.l0 k (y340 ++ y343) (wrap64 (x4 - 1)) x1000 bt327.2.1 bt327.2.2) else (none)))) else (none)))) else (none)) else (none))) else ((spec_l1Cur_pick.f x1000 x1001 x1002 40).bind fun bt350 => (if bt350.1 = 0 then (some ((([] : List Int)), bt350.2.1, bt350.2.2)) else (if bt350.1 = 1 then ((spec_l1Cur_pick.f x1000 bt350.2.1 bt350.2.2 (x3.length : Int)).bind fun bt356 => ((spec_l1Cur_among.f x1000 bt356.2.1 bt356.2.2 (([0, 1, 8, (-1)] : List Int))).bind fun bt362 => (if 0 ≤ bt356.1 then (if bt356.1 < (x3.length : Int) then (some ((x3.set (bt356.1 : Int).toNat bt362.1), bt362.2.1, bt362.2.2)) else (none)) else (none)))) else (if bt350.1 = 2 then (some ((([1, 2, 3, 4, 5, 6, 7, 8] : List Int)), bt350.2.1, bt350.2.2)) else (some (x3, bt350.2.1, bt350.2.2))))))
def spec_l1Cur_order.f (k : Nat) (s0_0 : List Int) (s0_1 : Int) (s0_2 : Int) : Option (List Int × Int × Int) := (spec_l1Cur_among.f s0_0 s0_1 s0_2 (([4, 5, 3, 6, 2, 7, 1, 4] : List Int))).bind fun bt324 => (spec_l1Cur_order.l0 k (([] : List Int)) bt324.1 s0_0 bt324.2.1 bt324.2.2)
def spec_l1Cur_order.T6 : Bool × List (List Nat × List Nat) := (true, [([], []), ([], []), ([0, 1], [0, 1]), ([2], [2]), ([], []), ([4], [4]), ([5], [5]), ([6], [6]), ([3, 7, 3], [3, 7]), ([], []), ([], []), ([9, 10], [9, 10]), ([8, 11, 8], [8, 11]), ([12, 12, 0, 1, 2, 3, 4, 5, 6, 7, 8, 9, 10, 11, 12], [0, 4, 9, 12])])
def spec_l1Cur_order.B6 : List Nat := [0, 0, 3, 7, 0, 16, 48, 112, 255, 0, 0, 1536, 4095, 8191]
theorem spec_l1Cur_order.tab6 : rtab .any (opsOf Try.f166 6) = spec_l1Cur_order.T6 := by kernel_rfl
theorem spec_l1Cur_order.bits6 : waitsOk spec_l1Cur_order.T6.2 spec_l1Cur_order.B6 = true := by kernel_rfl
set_option maxHeartbeats 8000000 in
set_option maxRecDepth 100000 in
theorem spec_l1Cur_order.calls (k : Nat) (g : Nat) (s0_0 : List Int) (s0_1 : Int) (s0_2 : Int) (r1 : List Int) (r2 : Int) (r3 : Int) (w0 w : World) (hI : IsS102 w0 w g s0_0 s0_1 s0_2) (hB : Below w0.heap.size w0 w) (h : spec_l1Cur_order.f k s0_0 s0_1 s0_2 = some (r1, r2, r3)) :
 Calls Try.prog 166 #[.pointer (some ⟨g, 0, none⟩)] w fun e w' => ∃ v0_ : Value, e = .returned (v0_) ∧ Kd.R (Kd.int .i64) 3 w' w.heap.size (fun _ => True) v0_ r1 ∧ IsS102 w0 w' g s0_0 r2 r3 ∧ Below w0.heap.size w0 w' ∧ KeepBut w w' g none := by
 have HI0 := zk hI
 have HK := zk (KeepBut.refl w g none)
 have HL := zk hB.size
 clear hI
 have HW0 := zk hB.size
 have HB := zk hB
 clear hB
 have H := h
 unfold spec_l1Cur_order.f at H
 clear h
 obtain ⟨y318, hy318⟩ : ∃ y_ : List Int, y_ = (([] : List Int)) := ⟨_, rfl⟩
 replace H : ((spec_l1Cur_among.f s0_0 s0_1 s0_2 (([4, 5, 3, 6, 2, 7, 1, 4] : List Int))).bind fun bt324 => (spec_l1Cur_order.l0 k y318 bt324.1 s0_0 bt324.2.1 bt324.2.2)) = some (r1, r2, r3) := by first | (rw [hy318]; with_reducible exact H) | (have H2_ := (Option.bind_some _ _).symm.trans H; rw [hy318]; with_reducible exact H2_) | (have H2_ := (Option.bind_some _ _).symm.trans H; with_reducible exact H2_) | with_reducible exact H | (rw [hy318]; exact H) | exact H
 have Ny318 := zk hy318
 clear hy318
 obtain ⟨y321, hy321⟩ : ∃ y_ : List Int, y_ = (([4, 5, 3, 6, 2, 7, 1, 4] : List Int)) := ⟨_, rfl⟩
 rw [← hy321] at H
 try rw [zO y321] at H
 try dsimp only at H
 have Ny321 := zk hy321
 clear hy321
 replace H := Option.bind_eq_some_iff.mp H
 obtain ⟨⟨t324, t325, t326⟩, A20, H⟩ := H
 try dsimp only at H
 have A2 := zk A20
 clear A20
 have H' := zk H
 clear H
 go_enter Try.func166, Try.ntmps166
 go_wp2_with (first | ((with_reducible refine gate_dst (N := 6) rfl ?_); refine zL 6 3 [] (Below.refl _ _) (Nat.le_refl _) ?_; intro v319 w3 ho4 hb hg_ hnew_; clear hg_ hnew_; (first | rw [← Ny318.out] at ho4 | (simp only [Int.reduceToNat] at ho4; rw [← Ny318.out] at ho4)); have HO320 := zk (Kd.R_lower ho4 (keep_size (w := w) (g := g) (row := none) (zK HK))); replace HK := zk (KeepBut.trans (zK HK) (KeepBut.of_below hb g none) (.inl rfl)); replace HB := zk (below_step (zBs HB (IsS102.ge HI0.out)) hb); replace HI0 := zk (IsS102.below (by repeat (first | exact HI0.out | apply IsS102.alloc | apply IsS102.drewN | apply IsS102.drew | apply IsS102.set_1 | apply IsS102.set_2)) hb); clear hb ho4) | ((with_reducible refine gate_dst (N := 8) rfl ?_); refine zL 8 3 [4, 5, 3, 6, 2, 7, 1, 4] (Below.refl _ _) (Nat.le_refl _) ?_; intro v322 w5 ho6 hb hg_ hnew_; clear hg_ hnew_; (first | rw [← Ny321.out] at ho6 | (simp only [Int.reduceToNat] at ho6; rw [← Ny321.out] at ho6)); have HO323 := zk (Kd.R_lower (Kd.R_new' ho6 (Kd.R_lt (zR HO320))) (keep_size (w := w) (g := g) (row := none) (zK HK))); replace HO320 := zE HO320 ho6 hb; replace HK := zk (KeepBut.trans (zK HK) (KeepBut.of_below hb g none) (.inl rfl)); replace HB := zk (below_step (zBs HB (IsS102.ge HI0.out)) hb); replace HI0 := zk (IsS102.below (by repeat (first | exact HI0.out | apply IsS102.alloc | apply IsS102.drewN | apply IsS102.drew | apply IsS102.set_1 | apply IsS102.set_2)) hb); clear hb ho6; obtain ⟨Ao7, co7, eo7⟩ := Kd.R_slice HO323.out; subst eo7) | ((with_reducible refine gate_callee (f := 195) rfl ?_); refine zG (some 9) Try.func195 #[.pointer (some ⟨g, 0, none⟩), .slice Ao7 y321.length co7] ?_; (with_reducible refine (spec_l1Cur_among.calls g s0_0 s0_1 s0_2 _ _ y321 t324 t325 t326 w0 _ ?side1 ?side2 ?side3 ?side4 ?side5 A2.out).mono ?_); (case side1 => repeat (first | exact HI0.out | apply IsS102.alloc | apply IsS102.drewN | apply IsS102.drew | apply IsS102.set_1 | apply IsS102.set_2)); (case side2 => exact zBs HB (IsS102.ge HI0.out)); (case side3 => exact zC (Kd.R_reads' HO323.out).2.2); (case side4 => exact (Kd.R_reads' HO323.out).2.1); (case side5 => exact far_slice (IsS102.own_ne HI0.out HO323.out (by decide))); rintro e w8 ⟨rfl, hi, hb, hk⟩; refine ⟨_, rfl, ?_⟩; replace HO320 := zk (Kd.R_mono (Kd.R_keep (IsS102.apart (show IsS102 w0 _ g s0_0 s0_1 s0_2 from by repeat (first | exact HI0.out | apply IsS102.alloc | apply IsS102.drewN | apply IsS102.drew | apply IsS102.set_1 | apply IsS102.set_2)) (zR HO320) (by decide)) hk (fun _ h => h.2)) (fun _ h => h.1)); replace HO323 := zk (Kd.R_mono (Kd.R_keep (IsS102.apart (show IsS102 w0 _ g s0_0 s0_1 s0_2 from by repeat (first | exact HI0.out | apply IsS102.alloc | apply IsS102.drewN | apply IsS102.drew | apply IsS102.set_1 | apply IsS102.set_2)) (zR HO323) (by decide)) hk (fun _ h => h.2)) (fun _ h => h.1)); replace HK := zk (KeepBut.trans (zK HK) hk (.inl rfl)); replace HB := zk (hb); replace HI0 := zk (hi); (try clear hb); (try clear hb2); (try clear hk); (try clear hi)))
 go_loopg [3, 4] k (fun kq v3 v4 w' => ∃ (x3_1 : List Int) (x4_1 : Int) (x1001_1 : Int) (x1002_1 : Int), v4 = .int .i64 x4_1 ∧ Aside0 (spec_l1Cur_order.l0 kq x3_1 x4_1 s0_0 x1001_1 x1002_1 = some (r1, r2, r3)) ∧ Aside0 (kq ≤ k) ∧ Aside0 (Kd.R (Kd.int .i64) 3 w' w.heap.size (fun _ => True) v3 x3_1) ∧ Aside0 (IsS102 w0 w' g s0_0 x1001_1 x1002_1) ∧ Aside0 (KeepBut w w' g none) ∧ Aside0 (Below w0.heap.size w0 w'))
 case atStart => exact ⟨(y318), (t324), (t325), (t326), (by first | rfl | (simp; done) | (simp [*]; done)), H', ⟨Nat.le_refl _⟩, ⟨by (with_reducible repeat (first | apply zs | apply zr | apply zt)); exact Kd.R_mono HO320.out (fun _ hk => trivial)⟩, ⟨by repeat (first | exact HI0.out | apply IsS102.alloc | apply IsS102.drewN | apply IsS102.drew | apply IsS102.set_1 | apply IsS102.set_2)⟩, ⟨by repeat (first | exact HK.out | apply KeepBut.set_ | apply keep_drewN | apply keep_drew | apply keep_alloc)⟩, ⟨by repeat (first | (with_reducible first | exact HB.out | apply za | apply zd | apply ze | refine below_set ?_ (IsS102.ge HI0.out)) | exact HB.out)⟩⟩
 case round =>
  clear H'
  try clear c1
  try clear p2
  obtain ⟨x3_1, x4_1, x1001_1, x1002_1, rfl, HA, HK1, HO_3, HI0, HK, HB⟩ := hrel
  cases gk with
  | zero => exact absurd HA.out (by simp [spec_l1Cur_order.l0])
  | succ k1 =>
   have H := HA.out
   clear HA
   simp only [spec_l1Cur_order.l0] at H
   by_cases c9 : x4_1 > 0
   rotate_left
   · rw [if_neg c9] at H
     have c9b0 := decide_eq_false c9
     clear c9
     replace H := Option.bind_eq_some_iff.mp H
     obtain ⟨⟨t350, t351, t352⟩, A300, H⟩ := H
     try dsimp only at H
     have A30 := zk A300
     clear A300
     by_cases c31 : t350 = 0
     rotate_left
     · rw [if_neg c31] at H
       have c31b0 : (t350 == 0) = false := beq_eq_false_iff_ne.mpr c31
       have c31b1 : (t350 != 0) = true := bne_iff_ne.mpr c31
       by_cases c35 : t350 = 1
       rotate_left
       · rw [if_neg c35] at H
         have c35b0 : (t350 == 1) = false := beq_eq_false_iff_ne.mpr c35
         have c35b1 : (t350 != 1) = true := bne_iff_ne.mpr c35
         by_cases c50 : t350 = 2
         rotate_left
         · rw [if_neg c50] at H
           have c50b0 : (t350 == 2) = false := beq_eq_false_iff_ne.mpr c50
           have c50b1 : (t350 != 2) = true := bne_iff_ne.mpr c50
           simp only [Option.some.injEq, Prod.mk.injEq] at H
           obtain ⟨rfl, rfl, rfl⟩ := H
           go_wp2_with (first | ((with_reducible refine gate_callee (f := 192) rfl ?_); refine zG (some 33) Try.func192 #[.pointer (some ⟨g, 0, none⟩), .int .i64 40] ?_; (with_reducible refine (spec_l1Cur_pick.calls g s0_0 x1001_1 x1002_1 40 t350 t351 t352 w0 _ ?side1 ?side2 A30.out).mono ?_); (case side1 => repeat (first | exact HI0.out | apply IsS102.alloc | apply IsS102.drewN | apply IsS102.drew | apply IsS102.set_1 | apply IsS102.set_2)); (case side2 => exact zBs HB (IsS102.ge HI0.out)); rintro e w54 ⟨rfl, hi, hb, hk⟩; refine ⟨_, rfl, ?_⟩; replace HO_3 := zk (Kd.R_mono (Kd.R_keep (IsS102.apart (show IsS102 w0 _ g s0_0 x1001_1 x1002_1 from by repeat (first | exact HI0.out | apply IsS102.alloc | apply IsS102.drewN | apply IsS102.drew | apply IsS102.set_1 | apply IsS102.set_2)) (zR HO_3) (by decide)) hk (fun _ h => h.2)) (fun _ h => h.1)); replace HK := zk (KeepBut.trans (zK HK) hk (.inl rfl)); replace HB := zk (hb); replace HI0 := zk (hi); (try clear hb); (try clear hb2); (try clear hk); (try clear hi)))
           go_ret
           exact ⟨_, by first | rfl | (simp [errW_none, errW_some] <;> rfl) | (simp [*, errW_none, errW_some] <;> rfl), by (with_reducible repeat (first | apply zs | apply zr | apply zt)); exact HO_3.out, by repeat (first | exact HI0.out | apply IsS102.alloc | apply IsS102.drewN | apply IsS102.drew | apply IsS102.set_1 | apply IsS102.set_2), by repeat (first | (with_reducible first | exact HB.out | apply za | apply zd | apply ze | refine below_set ?_ (IsS102.ge HI0.out)) | exact HB.out), by repeat (first | exact HK.out | apply KeepBut.set_ | apply keep_drewN | apply keep_drew | apply keep_alloc)⟩
         rw [if_pos c50] at H
         have c50b0 : (t350 == 2) = true := beq_iff_eq.mpr c50
         have c50b1 : (t350 != 2) = false := bne_eq_false_iff_eq.mpr c50
         clear c50
         obtain ⟨y366, hy366⟩ : ∃ y_ : List Int, y_ = (([1, 2, 3, 4, 5, 6, 7, 8] : List Int)) := ⟨_, rfl⟩
         replace H : (some (y366, t351, t352)) = some (r1, r2, r3) := by first | (rw [hy366]; with_reducible exact H) | (have H2_ := (Option.bind_some _ _).symm.trans H; rw [hy366]; with_reducible exact H2_) | (have H2_ := (Option.bind_some _ _).symm.trans H; with_reducible exact H2_) | with_reducible exact H | (rw [hy366]; exact H) | exact H
         have Ny366 := zk hy366
         clear hy366
         simp only [Option.some.injEq, Prod.mk.injEq] at H
         obtain ⟨rfl, rfl, rfl⟩ := H
         go_wp2_with (first | ((with_reducible refine gate_callee (f := 192) rfl ?_); refine zG (some 33) Try.func192 #[.pointer (some ⟨g, 0, none⟩), .int .i64 40] ?_; (with_reducible refine (spec_l1Cur_pick.calls g s0_0 x1001_1 x1002_1 40 t350 t351 t352 w0 _ ?side1 ?side2 A30.out).mono ?_); (case side1 => repeat (first | exact HI0.out | apply IsS102.alloc | apply IsS102.drewN | apply IsS102.drew | apply IsS102.set_1 | apply IsS102.set_2)); (case side2 => exact zBs HB (IsS102.ge HI0.out)); rintro e w51 ⟨rfl, hi, hb, hk⟩; refine ⟨_, rfl, ?_⟩; replace HO_3 := zk (Kd.R_mono (Kd.R_keep (IsS102.apart (show IsS102 w0 _ g s0_0 x1001_1 x1002_1 from by repeat (first | exact HI0.out | apply IsS102.alloc | apply IsS102.drewN | apply IsS102.drew | apply IsS102.set_1 | apply IsS102.set_2)) (zR HO_3) (by decide)) hk (fun _ h => h.2)) (fun _ h => h.1)); replace HK := zk (KeepBut.trans (zK HK) hk (.inl rfl)); replace HB := zk (hb); replace HI0 := zk (hi); (try clear hb); (try clear hb2); (try clear hk); (try clear hi)) | ((with_reducible refine gate_dst (N := 50) rfl ?_); refine zL 50 3 [1, 2, 3, 4, 5, 6, 7, 8] (Below.refl _ _) (Nat.le_refl _) ?_; intro v367 w52 ho53 hb hg_ hnew_; clear hg_ hnew_; (first | rw [← Ny366.out] at ho53 | (simp only [Int.reduceToNat] at ho53; rw [← Ny366.out] at ho53)); have HO368 := zk (Kd.R_lower (Kd.R_new' ho53 (Kd.R_lt (zR HO_3))) (keep_size (w := w) (g := g) (row := none) (zK HK))); replace HO_3 := zE HO_3 ho53 hb; replace HK := zk (KeepBut.trans (zK HK) (KeepBut.of_below hb g none) (.inl rfl)); replace HB := zk (below_step (zBs HB (IsS102.ge HI0.out)) hb); replace HI0 := zk (IsS102.below (by repeat (first | exact HI0.out | apply IsS102.alloc | apply IsS102.drewN | apply IsS102.drew | apply IsS102.set_1 | apply IsS102.set_2)) hb); clear hb ho53))
         go_ret
         exact ⟨_, by first | rfl | (simp [errW_none, errW_some] <;> rfl) | (simp [*, errW_none, errW_some] <;> rfl), by (with_reducible repeat (first | apply zs | apply zr | apply zt)); exact Kd.R_mono HO368.out (fun _ hk => trivial), by repeat (first | exact HI0.out | apply IsS102.alloc | apply IsS102.drewN | apply IsS102.drew | apply IsS102.set_1 | apply IsS102.set_2), by repeat (first | (with_reducible first | exact HB.out | apply za | apply zd | apply ze | refine below_set ?_ (IsS102.ge HI0.out)) | exact HB.out), by repeat (first | exact HK.out | apply KeepBut.set_ | apply keep_drewN | apply keep_drew | apply keep_alloc)⟩
       rw [if_pos c35] at H
       have c35b0 : (t350 == 1) = true := beq_iff_eq.mpr c35
       have c35b1 : (t350 != 1) = false := bne_eq_false_iff_eq.mpr c35
       clear c35
       replace H := Option.bind_eq_some_iff.mp H
       obtain ⟨⟨t356, t357, t358⟩, A360, H⟩ := H
       try dsimp only at H
       have A36 := zk A360
       clear A360
       obtain ⟨y359, hy359⟩ : ∃ y_ : List Int, y_ = (([0, 1, 8, (-1)] : List Int)) := ⟨_, rfl⟩
       rw [← hy359] at H
       try rw [zO y359] at H
       try dsimp only at H
       have Ny359 := zk hy359
       clear hy359
       replace H := Option.bind_eq_some_iff.mp H
       obtain ⟨⟨t362, t363, t364⟩, A370, H⟩ := H
       try dsimp only at H
       have A37 := zk A370
       clear A370
       by_cases c38 : 0 ≤ t356
       rotate_left
       · rw [if_neg c38] at H
         exact absurd H (by simp)
       rw [if_pos c38] at H
       have c38b0 := decide_eq_true c38
       clear c38
       by_cases c39 : t356 < (x3_1.length : Int)
       rotate_left
       · rw [if_neg c39] at H
         exact absurd H (by simp)
       rw [if_pos c39] at H
       have c39b0 := decide_eq_true c39
       clear c39
       obtain ⟨y365, hy365⟩ : ∃ y_ : List Int, y_ = (x3_1.set (t356 : Int).toNat t362) := ⟨_, rfl⟩
       replace H : (some (y365, t363, t364)) = some (r1, r2, r3) := by first | (rw [hy365]; with_reducible exact H) | (have H2_ := (Option.bind_some _ _).symm.trans H; rw [hy365]; with_reducible exact H2_) | (have H2_ := (Option.bind_some _ _).symm.trans H; with_reducible exact H2_) | with_reducible exact H | (rw [hy365]; exact H) | exact H
       have Ny365 := zk hy365
       clear hy365
       simp only [Option.some.injEq, Prod.mk.injEq] at H
       obtain ⟨rfl, rfl, rfl⟩ := H
       go_wp2_with (first | ((with_reducible refine gate_callee (f := 192) rfl ?_); refine zG (some 33) Try.func192 #[.pointer (some ⟨g, 0, none⟩), .int .i64 40] ?_; (with_reducible refine (spec_l1Cur_pick.calls g s0_0 x1001_1 x1002_1 40 t350 t351 t352 w0 _ ?side1 ?side2 A30.out).mono ?_); (case side1 => repeat (first | exact HI0.out | apply IsS102.alloc | apply IsS102.drewN | apply IsS102.drew | apply IsS102.set_1 | apply IsS102.set_2)); (case side2 => exact zBs HB (IsS102.ge HI0.out)); rintro e w41 ⟨rfl, hi, hb, hk⟩; refine ⟨_, rfl, ?_⟩; replace HO_3 := zk (Kd.R_mono (Kd.R_keep (IsS102.apart (show IsS102 w0 _ g s0_0 x1001_1 x1002_1 from by repeat (first | exact HI0.out | apply IsS102.alloc | apply IsS102.drewN | apply IsS102.drew | apply IsS102.set_1 | apply IsS102.set_2)) (zR HO_3) (by decide)) hk (fun _ h => h.2)) (fun _ h => h.1)); replace HK := zk (KeepBut.trans (zK HK) hk (.inl rfl)); replace HB := zk (hb); replace HI0 := zk (hi); (try clear hb); (try clear hb2); (try clear hk); (try clear hi); obtain ⟨Ao42, co42, eo42⟩ := Kd.R_slice HO_3.out; subst eo42) | ((with_reducible refine gate_callee (f := 192) rfl ?_); refine zG (some 43) Try.func192 #[.pointer (some ⟨g, 0, none⟩), .int .i64 (x3_1.length : Int)] ?_; (with_reducible refine (spec_l1Cur_pick.calls g s0_0 t351 t352 (x3_1.length : Int) t356 t357 t358 w0 _ ?side1 ?side2 A36.out).mono ?_); (case side1 => repeat (first | exact HI0.out | apply IsS102.alloc | apply IsS102.drewN | apply IsS102.drew | apply IsS102.set_1 | apply IsS102.set_2)); (case side2 => exact zBs HB (IsS102.ge HI0.out)); rintro e w43 ⟨rfl, hi, hb, hk⟩; refine ⟨_, rfl, ?_⟩; replace HO_3 := zk (Kd.R_mono (Kd.R_keep (IsS102.apart (show IsS102 w0 _ g s0_0 t351 t352 from by repeat (first | exact HI0.out | apply IsS102.alloc | apply IsS102.drewN | apply IsS102.drew | apply IsS102.set_1 | apply IsS102.set_2)) (zR HO_3) (by decide)) hk (fun _ h => h.2)) (fun _ h => h.1)); replace HK := zk (KeepBut.trans (zK HK) hk (.inl rfl)); replace HB := zk (hb); replace HI0 := zk (hi); (try clear hb); (try clear hb2); (try clear hk); (try clear hi)) | ((with_reducible refine gate_dst (N := 45) rfl ?_); refine zL 45 3 [0, 1, 8, (-1)] (Below.refl _ _) (Nat.le_refl _) ?_; intro v360 w44 ho45 hb hg_ hnew_; clear hg_ hnew_; (first | rw [← Ny359.out] at ho45 | (simp only [Int.reduceToNat] at ho45; rw [← Ny359.out] at ho45)); have HO361 := zk (Kd.R_lower (Kd.R_new' ho45 (Kd.R_lt (zR HO_3))) (keep_size (w := w) (g := g) (row := none) (zK HK))); replace HO_3 := zE HO_3 ho45 hb; replace HK := zk (KeepBut.trans (zK HK) (KeepBut.of_below hb g none) (.inl rfl)); replace HB := zk (below_step (zBs HB (IsS102.ge HI0.out)) hb); replace HI0 := zk (IsS102.below (by repeat (first | exact HI0.out | apply IsS102.alloc | apply IsS102.drewN | apply IsS102.drew | apply IsS102.set_1 | apply IsS102.set_2)) hb); clear hb ho45; obtain ⟨Ao46, co46, eo46⟩ := Kd.R_slice HO361.out; subst eo46) | ((with_reducible refine gate_callee (f := 195) rfl ?_); refine zG (some 46) Try.func195 #[.pointer (some ⟨g, 0, none⟩), .slice Ao46 y359.length co46] ?_; (with_reducible refine (spec_l1Cur_among.calls g s0_0 t357 t358 _ _ y359 t362 t363 t364 w0 _ ?side1 ?side2 ?side3 ?side4 ?side5 A37.out).mono ?_); (case side1 => repeat (first | exact HI0.out | apply IsS102.alloc | apply IsS102.drewN | apply IsS102.drew | apply IsS102.set_1 | apply IsS102.set_2)); (case side2 => exact zBs HB (IsS102.ge HI0.out)); (case side3 => exact zC (Kd.R_reads' HO361.out).2.2); (case side4 => exact (Kd.R_reads' HO361.out).2.1); (case side5 => exact far_slice (IsS102.own_ne HI0.out HO361.out (by decide))); rintro e w47 ⟨rfl, hi, hb, hk⟩; refine ⟨_, rfl, ?_⟩; replace HO_3 := zk (Kd.R_mono (Kd.R_keep (IsS102.apart (show IsS102 w0 _ g s0_0 t357 t358 from by repeat (first | exact HI0.out | apply IsS102.alloc | apply IsS102.drewN | apply IsS102.drew | apply IsS102.set_1 | apply IsS102.set_2)) (zR HO_3) (by decide)) hk (fun _ h => h.2)) (fun _ h => h.1)); replace HO361 := zk (Kd.R_mono (Kd.R_keep (IsS102.apart (show IsS102 w0 _ g s0_0 t357 t358 from by repeat (first | exact HI0.out | apply IsS102.alloc | apply IsS102.drewN | apply IsS102.drew | apply IsS102.set_1 | apply IsS102.set_2)) (zR HO361) (by decide)) hk (fun _ h => h.2)) (fun _ h => h.1)); replace HK := zk (KeepBut.trans (zK HK) hk (.inl rfl)); replace HB := zk (hb); replace HI0 := zk (hi); (try clear hb); (try clear hb2); (try clear hk); (try clear hi); have p40 : 0 ≤ (t356 : Int) := zo (by assumption); have q40 : (t356 : Int) < ((x3_1.length : Int) : Int) := zo (by assumption); obtain ⟨go40, co40, eo40, gb40, gl40, cl40, HG40⟩ := Kd.R_form HO_3.out (by omega); (first | cases eo40 | (injection eo40 with ea_ en_ ec_; (first | subst ea_ | (injection ea_ with ea_; subst ea_)); subst ec_; clear en_)); have GB40 := zk gb40; have GG40 := zk HG40; clear gb40 gl40 HG40; obtain ⟨hx40_0, hf40_0⟩ := Kd.R_celln 0 HO_3.out (t356 : Int) p40 q40; replace p40 := eq_true p40; replace q40 := eq_true q40; have n_ := zk (Kd.R_mono (ok' := (fun k_ => some k_ ≠ (.slice Ao46 y359.length co46 : Value).ownBlock)) HO_3.out (fun k_ hk => hk.2)); clear HO_3; have HO_3 := n_; clear n_; obtain ⟨hy48_, hz48_⟩ := Kd.R_celln 0 HO_3.out (t356 : Int) (zo (by assumption)) (zo (by assumption)); have HP48 := Kd.R_putg HO_3.out (t356 : Int) t362) | ((with_reducible refine gate_store (t := 3) (p := 47) rfl ?_); refine store_event (t := 3) (p := 47) (v := ?vo_w49) (w1 := (w47.setCell ⟨go40, (t356 : Int).toNat, none⟩ (.int .i64 t362))) ?hg ?ho ?hn ?hr ?_; (case ho => rfl); (case hg => rfl); (case hn => rfl); (case hr => first | (go_simp; done) | (go_simp; rfl)); intro w49 hw; have hg : w47.grownBy w49 (some go40) := (by rw [hw]; exact HP48.2); have hp_ : Kd.R (Kd.int .i64) 3 w49 w.heap.size (fun k_ => some k_ ≠ (.slice Ao46 y359.length co46 : Value).ownBlock) (.slice (some ⟨go40, 0, none⟩) x3_1.length co42) y365 := (by rw [hw, Ny365.out]; exact HP48.1); clear HP48; replace HI0 := zk (IsS102.grown (by repeat (first | exact HI0.out | apply IsS102.alloc | apply IsS102.drewN | apply IsS102.drew | apply IsS102.set_1 | apply IsS102.set_2)) hg (IsS102.own_ne HI0.out HO_3.out (by decide))); replace HO361 := zk (Kd.R_after (v := (.slice (some ⟨go40, 0, none⟩) x3_1.length co42)) (v1 := (.slice (some ⟨go40, 0, none⟩) x3_1.length co42)) (ok := (fun _ => True)) (zR HO361) hg (.inl rfl)); replace HB := zk ((by rw [hw]; exact below_set (HB.out) (Nat.le_trans HL.out GB40.out) : Below w0.heap.size w0 w49)); replace HK := zk (KeepBut.trans (zK HK) (KeepBut.of_grown hg g) (Kd.R_base2 HO_3.out)); replace HO_3 := zk (hp_); clear hg hw hp_))
       go_ret
       exact ⟨_, by first | rfl | (simp [errW_none, errW_some] <;> rfl) | (simp [*, errW_none, errW_some] <;> rfl), by (with_reducible repeat (first | apply zs | apply zr | apply zt)); exact Kd.R_mono HO_3.out (fun _ hk => trivial), by repeat (first | exact HI0.out | apply IsS102.alloc | apply IsS102.drewN | apply IsS102.drew | apply IsS102.set_1 | apply IsS102.set_2), by repeat (first | (with_reducible first | exact HB.out | apply za | apply zd | apply ze | refine below_set ?_ (IsS102.ge HI0.out)) | exact HB.out), by repeat (first | exact HK.out | apply KeepBut.set_ | apply keep_drewN | apply keep_drew | apply keep_alloc)⟩
     rw [if_pos c31] at H
     have c31b0 : (t350 == 0) = true := beq_iff_eq.mpr c31
     have c31b1 : (t350 != 0) = false := bne_eq_false_iff_eq.mpr c31
     clear c31
     obtain ⟨y353, hy353⟩ : ∃ y_ : List Int, y_ = (([] : List Int)) := ⟨_, rfl⟩
     replace H : (some (y353, t351, t352)) = some (r1, r2, r3) := by first | (rw [hy353]; with_reducible exact H) | (have H2_ := (Option.bind_some _ _).symm.trans H; rw [hy353]; with_reducible exact H2_) | (have H2_ := (Option.bind_some _ _).symm.trans H; with_reducible exact H2_) | with_reducible exact H | (rw [hy353]; exact H) | exact H
     have Ny353 := zk hy353
     clear hy353
     simp only [Option.some.injEq, Prod.mk.injEq] at H
     obtain ⟨rfl, rfl, rfl⟩ := H
     go_wp2_with (first | ((with_reducible refine gate_callee (f := 192) rfl ?_); refine zG (some 33) Try.func192 #[.pointer (some ⟨g, 0, none⟩), .int .i64 40] ?_; (with_reducible refine (spec_l1Cur_pick.calls g s0_0 x1001_1 x1002_1 40 t350 t351 t352 w0 _ ?side1 ?side2 A30.out).mono ?_); (case side1 => repeat (first | exact HI0.out | apply IsS102.alloc | apply IsS102.drewN | apply IsS102.drew | apply IsS102.set_1 | apply IsS102.set_2)); (case side2 => exact zBs HB (IsS102.ge HI0.out)); rintro e w32 ⟨rfl, hi, hb, hk⟩; refine ⟨_, rfl, ?_⟩; replace HO_3 := zk (Kd.R_mono (Kd.R_keep (IsS102.apart (show IsS102 w0 _ g s0_0 x1001_1 x1002_1 from by repeat (first | exact HI0.out | apply IsS102.alloc | apply IsS102.drewN | apply IsS102.drew | apply IsS102.set_1 | apply IsS102.set_2)) (zR HO_3) (by decide)) hk (fun _ h => h.2)) (fun _ h => h.1)); replace HK := zk (KeepBut.trans (zK HK) hk (.inl rfl)); replace HB := zk (hb); replace HI0 := zk (hi); (try clear hb); (try clear hb2); (try clear hk); (try clear hi)) | ((with_reducible refine gate_dst (N := 36) rfl ?_); refine zL 36 3 [] (Below.refl _ _) (Nat.le_refl _) ?_; intro v354 w33 ho34 hb hg_ hnew_; clear hg_ hnew_; (first | rw [← Ny353.out] at ho34 | (simp only [Int.reduceToNat] at ho34; rw [← Ny353.out] at ho34)); have HO355 := zk (Kd.R_lower (Kd.R_new' ho34 (Kd.R_lt (zR HO_3))) (keep_size (w := w) (g := g) (row := none) (zK HK))); replace HO_3 := zE HO_3 ho34 hb; replace HK := zk (KeepBut.trans (zK HK) (KeepBut.of_below hb g none) (.inl rfl)); replace HB := zk (below_step (zBs HB (IsS102.ge HI0.out)) hb); replace HI0 := zk (IsS102.below (by repeat (first | exact HI0.out | apply IsS102.alloc | apply IsS102.drewN | apply IsS102.drew | apply IsS102.set_1 | apply IsS102.set_2)) hb); clear hb ho34))
     go_ret
     exact ⟨_, by first | rfl | (simp [errW_none, errW_some] <;> rfl) | (simp [*, errW_none, errW_some] <;> rfl), by (with_reducible repeat (first | apply zs | apply zr | apply zt)); exact Kd.R_mono HO355.out (fun _ hk => trivial), by repeat (first | exact HI0.out | apply IsS102.alloc | apply IsS102.drewN | apply IsS102.drew | apply IsS102.set_1 | apply IsS102.set_2), by repeat (first | (with_reducible first | exact HB.out | apply za | apply zd | apply ze | refine below_set ?_ (IsS102.ge HI0.out)) | exact HB.out), by repeat (first | exact HK.out | apply KeepBut.set_ | apply keep_drewN | apply keep_drew | apply keep_alloc)⟩
   rw [if_pos c9] at H
   have c9b0 := decide_eq_true c9
   clear c9
   replace H := Option.bind_eq_some_iff.mp H
   obtain ⟨⟨t327, t328, t329⟩, A100, H⟩ := H
   try dsimp only at H
   have A10 := zk A100
   clear A100
   by_cases c11 : 0 ≤ t327
   rotate_left
   · rw [if_neg c11] at H
     exact absurd H (by simp)
   rw [if_pos c11] at H
   have c11b0 := eq_true c11
   have c11b1 := decide_eq_true c11
   clear c11
   by_cases c12 : t327 ≤ (x3_1.length : Int)
   rotate_left
   · rw [if_neg c12] at H
     exact absurd H (by simp)
   rw [if_pos c12] at H
   have c12b0 := eq_true c12
   have c12b1 := decide_eq_true c12
   clear c12
   obtain ⟨y330, hy330⟩ : ∃ y_ : List Int, y_ = (x3_1.take (t327 : Int).toNat) := ⟨_, rfl⟩
   rw [← hy330] at H
   try rw [zO y330] at H
   try dsimp only at H
   have Ny330 := zk hy330
   clear hy330
   replace H := Option.bind_eq_some_iff.mp H
   obtain ⟨t334, A130, H⟩ := H
   try dsimp only at H
   have A13 := zk A130
   clear A130
   obtain ⟨y337, hy337⟩ : ∃ y_ : List Int, y_ = (([wrap64 ((x3_1.length : Int) + 1)] : List Int)) := ⟨_, rfl⟩
   rw [← hy337] at H
   try rw [zO y337] at H
   try dsimp only at H
   have Ny337 := zk hy337
   clear hy337
   by_cases c14 : t334.length + y337.length < 17592186044416
   rotate_left
   · rw [if_neg c14] at H
     exact absurd H (by simp)
   rw [if_pos c14] at H
   have LMc14 := zk c14
   clear c14
   obtain ⟨y340, hy340⟩ : ∃ y_ : List Int, y_ = (t334 ++ y337) := ⟨_, rfl⟩
   rw [← hy340] at H
   try rw [zO y340] at H
   try dsimp only at H
   have Ny340 := zk hy340
   clear hy340
   have c15b0 := eq_true (zo (by assumption) : 0 ≤ t327)
   have c16b0 := eq_true (zo (by assumption) : t327 ≤ (x3_1.length : Int))
   obtain ⟨y343, hy343⟩ : ∃ y_ : List Int, y_ = (x3_1.drop (t327 : Int).toNat) := ⟨_, rfl⟩
   rw [← hy343] at H
   try rw [zO y343] at H
   try dsimp only at H
   have Ny343 := zk hy343
   clear hy343
   by_cases c17 : y340.length + y343.length < 17592186044416
   rotate_left
   · rw [if_neg c17] at H
     exact absurd H (by simp)
   rw [if_pos c17] at H
   have LMc17 := zk c17
   clear c17
   obtain ⟨y347, hy347⟩ : ∃ y_ : List Int, y_ = (y340 ++ y343) := ⟨_, rfl⟩
   replace H : (spec_l1Cur_order.l0 k1 y347 (wrap64 (x4_1 - 1)) s0_0 t328 t329) = some (r1, r2, r3) := by first | (rw [hy347]; with_reducible exact H) | (have H2_ := (Option.bind_some _ _).symm.trans H; rw [hy347]; with_reducible exact H2_) | (have H2_ := (Option.bind_some _ _).symm.trans H; with_reducible exact H2_) | with_reducible exact H | (rw [hy347]; exact H) | exact H
   have Ny347 := zk hy347
   clear hy347
   have H' := zk H
   clear H
   obtain ⟨Ao18, co18, eo18⟩ := Kd.R_slice HO_3.out
   subst eo18
   try go_wp2_with (first | ((with_reducible refine gate_callee (f := 192) rfl ?_); refine zG (some 18) Try.func192 #[.pointer (some ⟨g, 0, none⟩), .int .i64 (wrap64 ((x3_1.length : Int) + 1))] ?_; (with_reducible refine (spec_l1Cur_pick.calls g s0_0 x1001_1 x1002_1 (wrap64 ((x3_1.length : Int) + 1)) t327 t328 t329 w0 _ ?side1 ?side2 A10.out).mono ?_); (case side1 => repeat (first | exact HI0.out | apply IsS102.alloc | apply IsS102.drewN | apply IsS102.drew | apply IsS102.set_1 | apply IsS102.set_2)); (case side2 => exact zBs HB (IsS102.ge HI0.out)); rintro e w19 ⟨rfl, hi, hb, hk⟩; refine ⟨_, rfl, ?_⟩; replace HO_3 := zk (Kd.R_mono (Kd.R_keep (IsS102.apart (show IsS102 w0 _ g s0_0 x1001_1 x1002_1 from by repeat (first | exact HI0.out | apply IsS102.alloc | apply IsS102.drewN | apply IsS102.drew | apply IsS102.set_1 | apply IsS102.set_2)) (zR HO_3) (by decide)) hk (fun _ h => h.2)) (fun _ h => h.1)); replace HK := zk (KeepBut.trans (zK HK) hk (.inl rfl)); replace HB := zk (hb); replace HI0 := zk (hi); (try clear hb); (try clear hb2); (try clear hk); (try clear hi)))
   have n0_ := zk (zt HO_3.out)
   have n1_ := zk (IsS102.drew HI0.out)
   have n2_ := zk (keep_drew HK.out)
   have n3_ := zk (ze HB.out)
   clear HO_3
   clear HI0
   clear HK
   clear HB
   have HO_3 := n0_
   have HI0 := n1_
   have HK := n2_
   have HB := n3_
   clear n0_ n1_ n2_ n3_
   have q21 : (t327 : Int) ≤ ((x3_1.length : Int) : Int) := zo (by assumption)
   obtain ⟨i021, hi021, _, hsz21, _⟩ := info_parts info3
   have hroom21 : x3_1.length ≤ co18 := (Kd.R_reads' HO_3.out).2.1
   have hC21 : Kd.C (Kd.int .i64) _ Ao18 x3_1.length x3_1 := (Kd.R_reads' HO_3.out).2.2
   have hcut21 := cut_to (P := Try.prog) 22 3 .i64 Try.underlying22 hi021 Ao18 x3_1.length co18 t327 (zo (by assumption)) q21 hroom21
   have hr21 := Kd.C_take (m := (t327 : Int).toNat) hC21 (by omega)
   have hy21 : y330.length = (t327 : Int).toNat := (by rw [Ny330.out, List.length_take]; omega)
   rw [← Ny330.out] at hr21
   rw [← hy21] at hcut21
   have HR333 := zk hr21
   have HC333 := zk (show y330.length ≤ co18 from by omega)
   clear hr21 hC21 hroom21 hi021 hsz21
   have KY21 := zk hy21
   clear hy21
   have KL21 := zk (show (t327 : Int).toNat ≤ x3_1.length from by omega)
   replace q21 := eq_true q21
   have q22 : (t327 : Int) ≤ ((x3_1.length : Int) : Int) := zo (by assumption)
   obtain ⟨i022, hi022, _, hsz22, _⟩ := info_parts info3
   have hroom22 : x3_1.length ≤ co18 := (Kd.R_reads' HO_3.out).2.1
   have hC22 : Kd.C (Kd.int .i64) _ Ao18 x3_1.length x3_1 := (Kd.R_reads' HO_3.out).2.2
   have q022 : (0 : Int) ≤ (t327 : Int) := zo (by assumption)
   have hcut22 := cut_from (P := Try.prog) 22 3 .i64 Try.underlying22 hi022 1 hsz22 Ao18 x3_1.length co18 t327 q022 q22
   have hr22 := Kd.C_drop (m := (t327 : Int).toNat) (c := co18) hC22 (by omega) hroom22
   obtain ⟨A22, hA22⟩ : ∃ A1, A1 = (if co18 = (t327 : Int).toNat then Ao18 else (Ao18 : Option Addr).map (·.add ((t327 : Int).toNat * 1))) := ⟨_, rfl⟩
   obtain ⟨c22, hc22⟩ : ∃ c1, c1 = co18 - (t327 : Int).toNat := ⟨_, rfl⟩
   have hy22 : y343.length = x3_1.length - (t327 : Int).toNat := (by rw [Ny343.out, List.length_drop] <;> omega)
   rw [show (x3_1).drop (t327 : Int).toNat = y343 from Ny343.out.symm] at hr22
   replace hr22 : Kd.C (Kd.int .i64) _ A22 y343.length y343 := (by rw [hA22]; exact hr22)
   rw [← hy22, ← hA22, ← hc22] at hcut22
   have HR346 := zk hr22
   have HC346 := zk (show y343.length ≤ c22 from by rw [hy22, hc22]; exact Nat.sub_le_sub_right hroom22 _)
   clear hr22 hC22 hroom22 hi022 hsz22 hc22
   have KY22 := zk hy22
   have KA22 := zk hA22
   clear hy22 hA22
   have KL22 := zk (show (t327 : Int).toNat ≤ x3_1.length from by omega)
   replace q22 := eq_true q22
   refine start_ (n := 14) (S := fun w' => True) (ds := []) #[false, false, false, false, false, false, false, false, false, false, false, false, false, false] (by kernel_rfl) rfl rfl trivial (fun hHeld => ?_); refine with_tabW spec_l1Cur_order.tab6 spec_l1Cur_order.bits6 (fun HT_ HW_ => ?_)
   generalize w19.drew = w20 at HO_3 HI0 HK HB HR333 HR346 hHeld ⊢
   refine pure_ (i := 0) (N := some 19) (v := ?_) (a' := ?_) #[true, false, false, false, false, false, false, false, false, false, false, false, false, false] rfl rfl (any_of HT_.out (by kernel_rfl)) (fun _ _ _ h => h) (Or.inl ⟨by rfl, ?_⟩) ?_ ?_
   rotate_left
   · intro w'
     go_simp
     with_reducible rfl
   rotate_left
   · exact zQ
   refine pure_ (i := 1) (N := some 20) (v := ?_) (a' := ?_) #[true, true, false, false, false, false, false, false, false, false, false, false, false, false] rfl rfl (any_of HT_.out (by kernel_rfl)) (fun _ _ _ h => h) (Or.inl ⟨by rfl, ?_⟩) ?_ ?_
   rotate_left
   · intro w'
     go_simp
     with_reducible rfl
   rotate_left
   · exact zQ
   refine pure_ (i := 2) (N := some 21) (v := ?_) (a' := ?_) #[true, true, true, false, false, false, false, false, false, false, false, false, false, false] rfl rfl (any_of HT_.out (by kernel_rfl)) (fun _ _ _ h => h) (Or.inl ⟨by rfl, ?_⟩) ?_ ?_
   rotate_left
   · intro w'
     go_simp
     with_reducible rfl
   rotate_left
   · exact zQ
   refine pure_ (i := 4) (N := some 23) (v := ?_) (a' := ?_) #[true, true, true, false, true, false, false, false, false, false, false, false, false, false] rfl rfl (any_of HT_.out (by kernel_rfl)) (fun _ _ _ h => h) (Or.inl ⟨by rfl, ?_⟩) ?_ ?_
   rotate_left
   · intro w'
     go_simp
     with_reducible rfl
   rotate_left
   · exact zQ
   refine pure_ (i := 5) (N := some 24) (v := ?_) (a' := ?_) #[true, true, true, false, true, true, false, false, false, false, false, false, false, false] rfl rfl (any_of HT_.out (by kernel_rfl)) (fun _ _ _ h => h) (Or.inl ⟨by rfl, ?_⟩) ?_ ?_
   rotate_left
   · intro w'
     go_simp
     with_reducible rfl
   rotate_left
   · exact zQ
   refine pure_ (i := 6) (N := some 25) (v := ?_) (a' := ?_) #[true, true, true, false, true, true, true, false, false, false, false, false, false, false] rfl rfl (any_of HT_.out (by kernel_rfl)) (fun _ _ _ h => h) (Or.inl ⟨by rfl, ?_⟩) ?_ ?_
   rotate_left
   · intro w'
     go_simp
     with_reducible rfl
   rotate_left
   · exact zQ
   refine pure_ (i := 9) (N := some 28) (v := ?_) (a' := ?_) #[true, true, true, false, true, true, true, false, false, true, false, false, false, false] rfl rfl (any_of HT_.out (by kernel_rfl)) (fun _ _ _ h => h) (Or.inl ⟨by rfl, ?_⟩) ?_ ?_
   rotate_left
   · intro w'
     go_simp
     with_reducible rfl
   rotate_left
   · exact zQ
   refine pure_ (i := 10) (N := some 29) (v := ?_) (a' := ?_) #[true, true, true, false, true, true, true, false, false, true, true, false, false, false] rfl rfl (any_of HT_.out (by kernel_rfl)) (fun _ _ _ h => h) (Or.inl ⟨by rfl, ?_⟩) ?_ ?_
   rotate_left
   · intro w'
     go_simp
     with_reducible rfl
   rotate_left
   · exact zQ
   refine pure_ (i := 11) (N := some 30) (v := ?_) (a' := ?_) #[true, true, true, false, true, true, true, false, false, true, true, true, false, false] rfl rfl (any_of HT_.out (by kernel_rfl)) (fun _ _ _ h => h) (Or.inl ⟨by rfl, ?_⟩) ?_ ?_
   rotate_left
   · intro w'
     go_simp
     with_reducible rfl
   rotate_left
   · exact zQ
   refine join_ (σ := Value × Value) 3 #[true, true, true, true, true, true, true, true, false, true, true, true, false, false] (fun s_ => [(22, s_.1), (26, s_.2)]) (fun s_ w' => (Kd.R (Kd.int .i64) 3 w' w.heap.size (fun k_ => some k_ ≠ (s_.2 : Value).ownBlock ∧ some k_ ≠ (.slice Ao18 x3_1.length co18 : Value).ownBlock) s_.1 t334) ∧ (Kd.R (Kd.int .i64) 3 w' w.heap.size (fun k_ => some k_ ≠ (s_.1 : Value).ownBlock ∧ some k_ ≠ (.slice Ao18 x3_1.length co18 : Value).ownBlock) s_.2 y337) ∧ (Kd.R (Kd.int .i64) 3 w' w.heap.size (fun k_ => some k_ ≠ (s_.1 : Value).ownBlock ∧ some k_ ≠ (s_.2 : Value).ownBlock) (.slice Ao18 x3_1.length co18) x3_1) ∧ (IsS102 w0 w' g s0_0 t328 t329) ∧ (KeepBut w w' g none) ∧ (Below w0.heap.size w0 w')) ?_ ?_
   rotate_left
   · intro hCont
     refine two_ (i := 3) (j := 7) (Ni := some 22) (Nj := some 26) #[true, true, true, true, true, true, true, false, false, true, true, true, false, false] #[true, true, true, false, true, true, true, true, false, true, true, true, false, false] rfl rfl rfl rfl (two_of HT_.out (by kernel_rfl)) (by decide) (by decide) (fun K hK => ?_) (fun K hK => ?_)
     · skip
       refine goes_ Try.func169 (by kernel_rfl) rfl #[.slice Ao18 y330.length co18] (by rfl) rfl rfl (by (try simp only [List.map_toArray, List.map_cons, List.map_nil]); first | done | rfl | (simp only [List.length_drop, List.length_take]; rfl)) ?_
       with_reducible refine (spec_l1Own.calls _ _ y330 t334 _ ?side1 ?side2 A13.out).mono ?_
       (case side1 => exact zC HR333.out)
       (case side2 => exact HC333.out)
       rintro e w23 ⟨v335, rfl, ho0, hb⟩
       refine ⟨_, rfl, ?_⟩
       have n0_ := zE HO_3 ho0 hb
       have n1_ := zk (Kd.R_lower (Kd.R_new' ho0 (Kd.R_lt (zR HO_3))) (keep_size (w := w) (g := g) (row := none) (zK HK)))
       have n2_ := zk (IsS102.below (by repeat (first | exact HI0.out | apply IsS102.alloc | apply IsS102.drewN | apply IsS102.drew | apply IsS102.set_1 | apply IsS102.set_2)) hb)
       have n3_ := zk (Kd.C_below (zC HR333.out) hb)
       have n4_ := zk (Kd.C_below (zC HR346.out) hb)
       have n5_ := zk (KeepBut.trans (zK HK) (KeepBut.of_below hb g none) (.inl rfl))
       have n6_ := zk (below_step (zBs HB (IsS102.ge HI0.out)) hb)
       clear HO_3
       clear HI0
       clear HR333
       clear HR346
       clear HK
       clear HB
       have HO_3 := n0_
       have HO336 := n1_
       have HI0 := n2_
       have HR333 := n3_
       have HR346 := n4_
       have HK := n5_
       have HB := n6_
       clear n0_ n1_ n2_ n3_ n4_ n5_ n6_
       (try clear hb)
       (try clear hb2)
       (try clear hk)
       (try clear hi)
       (try clear ho0)
       refine hK.out _ _ trivial (fun hHeld => ?_)
       clear hK K
       refine zM 22 ?_
       refine one_ (i := 7) (N := some 26) #[true, true, true, true, true, true, true, true, false, true, true, true, false, false] rfl rfl (one_of HT_.out (by kernel_rfl)) (by decide) (fun K hK => ?_)
       refine Kd.R_lit_step (Kd.int .i64) _ 3 ?hg (N := 26) ?hd (xs := ([wrap64 ((x3_1.length : Int) + 1)] : List Int)) (inner := [.int .i64 (wrap64 ((x3_1.length : Int) + 1))]) (ok := fun _ => True) (okp := fun _ => True) ?hr ?hp (fun _ hk => hk) trivial (Below.refl _ _) (Nat.le_refl _) (by simp) ?_; (case hd => rfl); (case hg => rfl); (case hr => first | (go_simp; done) | (go_simp; rfl)); (case hp => exact (Reps.one (show Kd.M (Kd.int .i64) _ _ _ (wrap64 ((x3_1.length : Int) + 1)) [.int .i64 (wrap64 ((x3_1.length : Int) + 1))] from rfl) (Reps.none _ _)))
       intro v338 w24 ho25 hb hg_ hnew_
       clear hg_ hnew_
       (first | rw [← Ny337.out] at ho25 | (simp only [Int.reduceToNat] at ho25; rw [← Ny337.out] at ho25))
       have n0_ := zE HO_3 ho25 hb
       have n1_ := zE HO336 ho25 hb
       have n2_ := zk (Kd.R_lower (Kd.R_new' (Kd.R_new' ho25 (Kd.R_lt (zR HO_3))) (Kd.R_lt (zR HO336))) (keep_size (w := w) (g := g) (row := none) (zK HK)))
       have n3_ := zk (IsS102.below (by repeat (first | exact HI0.out | apply IsS102.alloc | apply IsS102.drewN | apply IsS102.drew | apply IsS102.set_1 | apply IsS102.set_2)) hb)
       have n4_ := zk (Kd.C_below (zC HR333.out) hb)
       have n5_ := zk (Kd.C_below (zC HR346.out) hb)
       have n6_ := zk (KeepBut.trans (zK HK) (KeepBut.of_below hb g none) (.inl rfl))
       have n7_ := zk (below_step (zBs HB (IsS102.ge HI0.out)) hb)
       clear HO_3
       clear HO336
       clear HI0
       clear HR333
       clear HR346
       clear HK
       clear HB
       have HO_3 := n0_
       have HO336 := n1_
       have HO339 := n2_
       have HI0 := n3_
       have HR333 := n4_
       have HR346 := n5_
       have HK := n6_
       have HB := n7_
       clear n0_ n1_ n2_ n3_ n4_ n5_ n6_ n7_
       clear hb ho25
       refine hK.out _ _ trivial (fun hHeld => ?_)
       clear hK K
       refine zM 26 ?_
       exact norm_ (by simp only [putAll, Act.put, List.setIfInBounds_toArray, List.set_cons_zero, List.set_cons_succ]) (hCont (v335, v338) _ ⟨(by (with_reducible repeat (first | apply zs | apply zr | apply zt)); exact Kd.R_mono HO336.out (fun _ hk => ⟨hk.2, hk.1.2⟩)), (by (with_reducible repeat (first | apply zs | apply zr | apply zt)); exact Kd.R_mono HO339.out (fun _ hk => ⟨hk.2, hk.1.2⟩)), (by (with_reducible repeat (first | apply zs | apply zr | apply zt)); exact Kd.R_mono HO_3.out (fun _ hk => ⟨hk.1.2, hk.2⟩)), (by repeat (first | exact HI0.out | apply IsS102.alloc | apply IsS102.drewN | apply IsS102.drew | apply IsS102.set_1 | apply IsS102.set_2)), (zK HK), (zBs HB (IsS102.ge HI0.out))⟩)
     · skip
       refine Kd.R_lit_step (Kd.int .i64) _ 3 ?hg (N := 26) ?hd (xs := ([wrap64 ((x3_1.length : Int) + 1)] : List Int)) (inner := [.int .i64 (wrap64 ((x3_1.length : Int) + 1))]) (ok := fun _ => True) (okp := fun _ => True) ?hr ?hp (fun _ hk => hk) trivial (Below.refl _ _) (Nat.le_refl _) (by simp) ?_; (case hd => rfl); (case hg => rfl); (case hr => first | (go_simp; done) | (go_simp; rfl)); (case hp => exact (Reps.one (show Kd.M (Kd.int .i64) _ _ _ (wrap64 ((x3_1.length : Int) + 1)) [.int .i64 (wrap64 ((x3_1.length : Int) + 1))] from rfl) (Reps.none _ _)))
       intro v338 w23 ho24 hb hg_ hnew_
       clear hg_ hnew_
       (first | rw [← Ny337.out] at ho24 | (simp only [Int.reduceToNat] at ho24; rw [← Ny337.out] at ho24))
       have n0_ := zE HO_3 ho24 hb
       have n1_ := zk (Kd.R_lower (Kd.R_new' ho24 (Kd.R_lt (zR HO_3))) (keep_size (w := w) (g := g) (row := none) (zK HK)))
       have n2_ := zk (IsS102.below (by repeat (first | exact HI0.out | apply IsS102.alloc | apply IsS102.drewN | apply IsS102.drew | apply IsS102.set_1 | apply IsS102.set_2)) hb)
       have n3_ := zk (Kd.C_below (zC HR333.out) hb)
       have n4_ := zk (Kd.C_below (zC HR346.out) hb)
       have n5_ := zk (KeepBut.trans (zK HK) (KeepBut.of_below hb g none) (.inl rfl))
       have n6_ := zk (below_step (zBs HB (IsS102.ge HI0.out)) hb)
       clear HO_3
       clear HI0
       clear HR333
       clear HR346
       clear HK
       clear HB
       have HO_3 := n0_
       have HO339 := n1_
       have HI0 := n2_
       have HR333 := n3_
       have HR346 := n4_
       have HK := n5_
       have HB := n6_
       clear n0_ n1_ n2_ n3_ n4_ n5_ n6_
       clear hb ho24
       refine hK.out _ _ trivial (fun hHeld => ?_)
       clear hK K
       refine zM 26 ?_
       refine one_ (i := 3) (N := some 22) #[true, true, true, true, true, true, true, true, false, true, true, true, false, false] rfl rfl (one_of HT_.out (by kernel_rfl)) (by decide) (fun K hK => ?_)
       refine goes_ Try.func169 (by kernel_rfl) rfl #[.slice Ao18 y330.length co18] (by rfl) rfl rfl (by (try simp only [List.map_toArray, List.map_cons, List.map_nil]); first | done | rfl | (simp only [List.length_drop, List.length_take]; rfl)) ?_
       with_reducible refine (spec_l1Own.calls _ _ y330 t334 _ ?side1 ?side2 A13.out).mono ?_
       (case side1 => exact zC HR333.out)
       (case side2 => exact HC333.out)
       rintro e w25 ⟨v335, rfl, ho0, hb⟩
       refine ⟨_, rfl, ?_⟩
       have n0_ := zE HO_3 ho0 hb
       have n1_ := zE HO339 ho0 hb
       have n2_ := zk (Kd.R_lower (Kd.R_new' (Kd.R_new' ho0 (Kd.R_lt (zR HO_3))) (Kd.R_lt (zR HO339))) (keep_size (w := w) (g := g) (row := none) (zK HK)))
       have n3_ := zk (IsS102.below (by repeat (first | exact HI0.out | apply IsS102.alloc | apply IsS102.drewN | apply IsS102.drew | apply IsS102.set_1 | apply IsS102.set_2)) hb)
       have n4_ := zk (Kd.C_below (zC HR333.out) hb)
       have n5_ := zk (Kd.C_below (zC HR346.out) hb)
       have n6_ := zk (KeepBut.trans (zK HK) (KeepBut.of_below hb g none) (.inl rfl))
       have n7_ := zk (below_step (zBs HB (IsS102.ge HI0.out)) hb)
       clear HO_3
       clear HO339
       clear HI0
       clear HR333
       clear HR346
       clear HK
       clear HB
       have HO_3 := n0_
       have HO339 := n1_
       have HO336 := n2_
       have HI0 := n3_
       have HR333 := n4_
       have HR346 := n5_
       have HK := n6_
       have HB := n7_
       clear n0_ n1_ n2_ n3_ n4_ n5_ n6_ n7_
       (try clear hb)
       (try clear hb2)
       (try clear hk)
       (try clear hi)
       (try clear ho0)
       refine hK.out _ _ trivial (fun hHeld => ?_)
       clear hK K
       refine zM 22 ?_
       exact norm_ (by simp only [putAll, Act.put, List.setIfInBounds_toArray, List.set_cons_zero, List.set_cons_succ]) (hCont (v335, v338) _ ⟨(by (with_reducible repeat (first | apply zs | apply zr | apply zt)); exact Kd.R_mono HO336.out (fun _ hk => ⟨hk.2, hk.1.2⟩)), (by (with_reducible repeat (first | apply zs | apply zr | apply zt)); exact Kd.R_mono HO339.out (fun _ hk => ⟨hk.2, hk.1.2⟩)), (by (with_reducible repeat (first | apply zs | apply zr | apply zt)); exact Kd.R_mono HO_3.out (fun _ hk => ⟨hk.2, hk.1.2⟩)), (by repeat (first | exact HI0.out | apply IsS102.alloc | apply IsS102.drewN | apply IsS102.drew | apply IsS102.set_1 | apply IsS102.set_2)), (zK HK), (zBs HB (IsS102.ge HI0.out))⟩)
   rintro ⟨v335, v338⟩ w26 ⟨h0_, h1_, h2_, h3_, h4_, h5_⟩
   have n0_ : Aside0 (Kd.R (Kd.int .i64) 3 w26 w.heap.size (fun k_ => some k_ ≠ (v338 : Value).ownBlock ∧ some k_ ≠ (.slice Ao18 x3_1.length co18 : Value).ownBlock) v335 t334) := ⟨h0_⟩
   have n1_ : Aside0 (Kd.R (Kd.int .i64) 3 w26 w.heap.size (fun k_ => some k_ ≠ (v335 : Value).ownBlock ∧ some k_ ≠ (.slice Ao18 x3_1.length co18 : Value).ownBlock) v338 y337) := ⟨h1_⟩
   have n2_ : Aside0 (Kd.R (Kd.int .i64) 3 w26 w.heap.size (fun k_ => some k_ ≠ (v335 : Value).ownBlock ∧ some k_ ≠ (v338 : Value).ownBlock) (.slice Ao18 x3_1.length co18) x3_1) := ⟨h2_⟩
   have n3_ : Aside0 (IsS102 w0 w26 g s0_0 t328 t329) := ⟨h3_⟩
   have n4_ : Aside0 (KeepBut w w26 g none) := ⟨h4_⟩
   have n5_ : Aside0 (Below w0.heap.size w0 w26) := ⟨h5_⟩
   clear HO_3
   clear HI0
   clear HK
   clear HB
   clear h0_ h1_ h2_ h3_ h4_ h5_
   have HO336 := n0_
   have HO339 := n1_
   have HO_3 := n2_
   have HI0 := n3_
   have HK := n4_
   have HB := n5_
   clear n0_ n1_ n2_ n3_ n4_ n5_
   have hHeld := trivial
   (try clear HR333)
   have HR333 := zk (show Kd.C (Kd.int .i64) w26 Ao18 y330.length y330 from by rw [Ny330.out]; exact Kd.C_take (m := (t327 : Int).toNat) ((Kd.R_reads' HO_3.out).2.2) KL21.out)
   (try clear HR346)
   have HR346 := zk (show Kd.C (Kd.int .i64) w26 A22 y343.length y343 from by rw [Ny343.out, KA22.out]; exact Kd.C_drop (m := (t327 : Int).toNat) (c := co18) ((Kd.R_reads' HO_3.out).2.2) KL22.out ((Kd.R_reads' HO_3.out).2.1))
   obtain ⟨Ao28, co28, eo28⟩ := Kd.R_slice HO339.out
   (first | subst eo28 | (injection eo28 with f1_ f2_ f3_; have f4_ := f1_.symm; have f5_ := f3_.symm; clear f1_ f2_ f3_; subst f4_; subst f5_))
   refine norm_ (a' := ?_) ?_ ?_
   rotate_left
   · simp only [putAll, Act.put, List.setIfInBounds_toArray, List.set_cons_zero, List.set_cons_succ]
     rfl
   refine one_ (i := 8) (N := some 27) #[true, true, true, true, true, true, true, true, true, true, true, true, false, false] rfl rfl (one_of HT_.out (by kernel_rfl)) (by decide) (fun K hK => ?_)
   refine Kd.R_append_rows_step (Kd.int .i64) w.heap.size (by rfl) (.tmp 22) (.tmp 26) 22 3 (.int .i64 0) 8 rfl Try.underlying22 info3 rfl (by decide) (by omega) v335 t334 y337 _ _ _ (fun k_ => some k_ ≠ (.slice Ao18 x3_1.length co18 : Value).ownBlock ∧ some k_ ≠ (.slice Ao28 y337.length co28 : Value).ownBlock) (fun _ => False) rfl rfl ?aO ?aR (fun _ _ h => h) (fun _ h => h.elim) ?aF (Below.refl _ _) ?aS ?aL ?_
   (case aR => exact zC (Kd.R_reads' HO339.out).2.2)
   (case aF => exact (fun k_ hk => ⟨Kd.fresh' (Kd.R_lt (zR HO_3)) k_ hk, Kd.fresh' (Kd.R_lt (zR HO339)) k_ hk⟩))
   (case aO => exact (by (with_reducible repeat (first | apply zs | apply zr | apply zt)); exact Kd.R_mono HO336.out (fun _ hk => ⟨hk.2, hk.1⟩)))
   (case aS => exact (keep_size (w := w) (g := g) (row := none) (zK HK)))
   (case aL => have := LMc14.out; omega)
   intro v341 w27 ho hb hg hat
   rw [← Ny340.out] at ho
   have n0_ := zk (Kd.R_after (ok := (fun k_ => some k_ ≠ (.slice Ao28 y337.length co28 : Value).ownBlock)) (by (with_reducible repeat (first | apply zs | apply zr | apply zt)); first | exact Kd.R_mono HO_3.out (fun _ hk => ⟨hk.2, hk.1⟩) | exact Kd.R_mono HO_3.out (fun k_ hk => by (have own_ : ∀ (A : Option Addr) (n c : Nat), (Value.slice A n c).ownBlock = A.map Addr.block := fun A n c => by cases A <;> rfl); simp only [own_] at hk ⊢; exact ⟨hk.2, hk.1⟩)) hg hat)
   have n1_ := zk (IsS102.grown (by repeat (first | exact HI0.out | apply IsS102.alloc | apply IsS102.drewN | apply IsS102.drew | apply IsS102.set_1 | apply IsS102.set_2)) hg (IsS102.own_ne HI0.out HO336.out (by decide)))
   have n2_ := zk (Kd.R_after (ok := (fun k_ => some k_ ≠ (.slice Ao18 x3_1.length co18 : Value).ownBlock)) (by (with_reducible repeat (first | apply zs | apply zr | apply zt)); first | exact Kd.R_mono HO339.out (fun _ hk => ⟨hk.2, hk.1⟩) | exact Kd.R_mono HO339.out (fun k_ hk => by (have own_ : ∀ (A : Option Addr) (n c : Nat), (Value.slice A n c).ownBlock = A.map Addr.block := fun A n c => by cases A <;> rfl); simp only [own_] at hk ⊢; exact ⟨hk.2, hk.1⟩)) hg hat)
   have n3_ := zk (below_weaken (zBs HB (IsS102.ge HI0.out)) HL.out hb)
   have n4_ := zk (KeepBut.trans (zK HK) (KeepBut.of_grown hg g) (Kd.R_base2 HO336.out))
   have n5_ := zk ((show Kd.C (Kd.int .i64) w27 Ao18 y330.length y330 from by rw [Ny330.out]; exact Kd.C_take (m := (t327 : Int).toNat) ((Kd.R_reads' (Kd.R_after (ok := (fun k_ => some k_ ≠ (.slice Ao28 y337.length co28 : Value).ownBlock)) (by (with_reducible repeat (first | apply zs | apply zr | apply zt)); first | exact Kd.R_mono HO_3.out (fun _ hk => ⟨hk.2, hk.1⟩) | exact Kd.R_mono HO_3.out (fun k_ hk => by (have own_ : ∀ (A : Option Addr) (n c : Nat), (Value.slice A n c).ownBlock = A.map Addr.block := fun A n c => by cases A <;> rfl); simp only [own_] at hk ⊢; exact ⟨hk.2, hk.1⟩)) hg hat)).2.2) KL21.out))
   have n6_ := zk ((show Kd.C (Kd.int .i64) w27 A22 y343.length y343 from by rw [Ny343.out, KA22.out]; exact Kd.C_drop (m := (t327 : Int).toNat) (c := co18) ((Kd.R_reads' (Kd.R_after (ok := (fun k_ => some k_ ≠ (.slice Ao28 y337.length co28 : Value).ownBlock)) (by (with_reducible repeat (first | apply zs | apply zr | apply zt)); first | exact Kd.R_mono HO_3.out (fun _ hk => ⟨hk.2, hk.1⟩) | exact Kd.R_mono HO_3.out (fun k_ hk => by (have own_ : ∀ (A : Option Addr) (n c : Nat), (Value.slice A n c).ownBlock = A.map Addr.block := fun A n c => by cases A <;> rfl); simp only [own_] at hk ⊢; exact ⟨hk.2, hk.1⟩)) hg hat)).2.2) KL22.out ((Kd.R_reads' (Kd.R_after (ok := (fun k_ => some k_ ≠ (.slice Ao28 y337.length co28 : Value).ownBlock)) (by (with_reducible repeat (first | apply zs | apply zr | apply zt)); first | exact Kd.R_mono HO_3.out (fun _ hk => ⟨hk.2, hk.1⟩) | exact Kd.R_mono HO_3.out (fun k_ hk => by (have own_ : ∀ (A : Option Addr) (n c : Nat), (Value.slice A n c).ownBlock = A.map Addr.block := fun A n c => by cases A <;> rfl); simp only [own_] at hk ⊢; exact ⟨hk.2, hk.1⟩)) hg hat)).2.1)))
   have n7_ := zk (ho)
   clear HO_3
   clear HI0
   clear HO339
   clear HB
   clear HK
   clear HR333
   clear HR346
   clear HO336
   have HO_3 := n0_
   have HI0 := n1_
   have HO339 := n2_
   have HB := n3_
   have HK := n4_
   have HR333 := n5_
   have HR346 := n6_
   have HO342 := n7_
   clear n0_ n1_ n2_ n3_ n4_ n5_ n6_ n7_
   clear ho hb hg hat
   refine hK.out _ _ trivial (fun hHeld => ?_)
   clear hK K
   refine zM 27 ?_
   refine one_ (i := 12) (N := some 31) #[true, true, true, true, true, true, true, true, true, true, true, true, true, false] rfl rfl (one_of HT_.out (by kernel_rfl)) (by decide) (fun K hK => ?_)
   refine Kd.R_append_rows_step (Kd.int .i64) w.heap.size (by rfl) (.tmp 27) (.tmp 30) 22 3 (.int .i64 0) 8 rfl Try.underlying22 info3 rfl (by decide) (by omega) v341 y340 y343 _ _ _ (fun k_ => some k_ ≠ (.slice Ao18 x3_1.length co18 : Value).ownBlock ∧ some k_ ≠ (.slice Ao28 y337.length co28 : Value).ownBlock) (fun _ => False) rfl rfl ?aO ?aR (fun _ _ h => h) (fun _ h => h.elim) ?aF (Below.refl _ _) ?aS ?aL ?_
   (case aR => exact zC HR346.out)
   (case aF => exact (fun k_ hk => ⟨Kd.fresh' (Kd.R_lt (zR HO_3)) k_ hk, Kd.fresh' (Kd.R_lt (zR HO339)) k_ hk⟩))
   (case aO => exact (zR HO342))
   (case aS => exact (keep_size (w := w) (g := g) (row := none) (zK HK)))
   (case aL => have := LMc17.out; omega)
   intro v348 w29 ho hb hg hat
   rw [← Ny347.out] at ho
   have n0_ := zk (Kd.R_after (ok := (fun k_ => some k_ ≠ (.slice Ao28 y337.length co28 : Value).ownBlock)) (zR HO_3) hg hat)
   have n1_ := zk (IsS102.grown (by repeat (first | exact HI0.out | apply IsS102.alloc | apply IsS102.drewN | apply IsS102.drew | apply IsS102.set_1 | apply IsS102.set_2)) hg (IsS102.own_ne HI0.out HO342.out (by decide)))
   have n2_ := zk (Kd.R_after (ok := (fun k_ => some k_ ≠ (.slice Ao18 x3_1.length co18 : Value).ownBlock)) (zR HO339) hg hat)
   have n3_ := zk (below_weaken (zBs HB (IsS102.ge HI0.out)) HL.out hb)
   have n4_ := zk (KeepBut.trans (zK HK) (KeepBut.of_grown hg g) (Kd.R_base2 HO342.out))
   have n5_ := zk ((show Kd.C (Kd.int .i64) w29 Ao18 y330.length y330 from by rw [Ny330.out]; exact Kd.C_take (m := (t327 : Int).toNat) ((Kd.R_reads' (Kd.R_after (ok := (fun k_ => some k_ ≠ (.slice Ao28 y337.length co28 : Value).ownBlock)) (zR HO_3) hg hat)).2.2) KL21.out))
   have n6_ := zk ((show Kd.C (Kd.int .i64) w29 A22 y343.length y343 from by rw [Ny343.out, KA22.out]; exact Kd.C_drop (m := (t327 : Int).toNat) (c := co18) ((Kd.R_reads' (Kd.R_after (ok := (fun k_ => some k_ ≠ (.slice Ao28 y337.length co28 : Value).ownBlock)) (zR HO_3) hg hat)).2.2) KL22.out ((Kd.R_reads' (Kd.R_after (ok := (fun k_ => some k_ ≠ (.slice Ao28 y337.length co28 : Value).ownBlock)) (zR HO_3) hg hat)).2.1)))
   have n7_ := zk (ho)
   clear HO_3
   clear HI0
   clear HO339
   clear HB
   clear HK
   clear HR333
   clear HR346
   clear HO342
   have HO_3 := n0_
   have HI0 := n1_
   have HO339 := n2_
   have HB := n3_
   have HK := n4_
   have HR333 := n5_
   have HR346 := n6_
   have HO349 := n7_
   clear n0_ n1_ n2_ n3_ n4_ n5_ n6_ n7_
   clear ho hb hg hat
   refine hK.out _ _ trivial (fun hHeld => ?_)
   clear hK K
   refine zM 31 ?_
   refine pure_ (i := 13) (N := some 3) (v := ?_) (a' := ?_) #[true, true, true, true, true, true, true, true, true, true, true, true, true, true] rfl rfl (any_of HT_.out (by kernel_rfl)) (fun _ _ _ h => h) (Or.inl ⟨by rfl, ?_⟩) ?_ ?_
   rotate_left
   · intro w'
     go_simp
     with_reducible rfl
   rotate_left
   · exact zQ
   refine done_ (done_of HT_.out (by kernel_rfl)) ?_
   try go_wp2
   go_roundg k1
   case measure => have := HK1.out; omega
   case rel => exact ⟨(y347), (wrap64 (x4_1 - 1)), (t328), (t329), (by first | rfl | (simp; done) | (simp [*]; done)), H', ⟨by have := HK1.out; omega⟩, ⟨by (with_reducible repeat (first | apply zs | apply zr | apply zt)); exact Kd.R_mono HO349.out (fun _ hk => trivial)⟩, ⟨by repeat (first | exact HI0.out | apply IsS102.alloc | apply IsS102.drewN | apply IsS102.drew | apply IsS102.set_1 | apply IsS102.set_2)⟩, ⟨by repeat (first | exact HK.out | apply KeepBut.set_ | apply keep_drewN | apply keep_drew | apply keep_alloc)⟩, ⟨by repeat (first | (with_reducible first | exact HB.out | apply za | apply zd | apply ze | refine below_set ?_ (IsS102.ge HI0.out)) | exact HB.out)⟩⟩

/-! ### spec_l1Cur_one: function 164 -/
def spec_l1Cur_one.f (s0_0 : List Int) (s0_1 : Int) (s0_2 : Int) (a1 : Int) : Option (Bool × Int × Int) := (spec_l1Cur_pick.f s0_0 s0_1 s0_2 a1).bind fun bt369 => (some ((bt369.1 == 0), bt369.2.1, bt369.2.2))
set_option maxHeartbeats 8000000 in
set_option maxRecDepth 100000 in
theorem spec_l1Cur_one.calls (g : Nat) (s0_0 : List Int) (s0_1 : Int) (s0_2 : Int) (a1 : Int) (r1 : Bool) (r2 : Int) (r3 : Int) (w0 w : World) (hI : IsS102 w0 w g s0_0 s0_1 s0_2) (hB : Below w0.heap.size w0 w) (h : spec_l1Cur_one.f s0_0 s0_1 s0_2 a1 = some (r1, r2, r3)) :
 Calls Try.prog 164 #[.pointer (some ⟨g, 0, none⟩), .int .i64 a1] w fun e w' => e = .returned (.bool r1) ∧ IsS102 w0 w' g s0_0 r2 r3 ∧ Below w0.heap.size w0 w' ∧ KeepBut w w' g none := by
 have HI0 := zk hI
 have HK := zk (KeepBut.refl w g none)
 have HL := zk hB.size
 clear hI
 have HW0 := zk hB.size
 have HB := zk hB
 clear hB
 have H := h
 unfold spec_l1Cur_one.f at H
 clear h
 replace H := Option.bind_eq_some_iff.mp H
 obtain ⟨⟨t369, t370, t371⟩, A30, H⟩ := H
 try dsimp only at H
 have A3 := zk A30
 clear A30
 simp only [Option.some.injEq, Prod.mk.injEq] at H
 obtain ⟨rfl, rfl, rfl⟩ := H
 go_enter Try.func164, Try.ntmps164
 go_wp2_with (first | ((with_reducible refine gate_callee (f := 192) rfl ?_); refine zG (some 7) Try.func192 #[.pointer (some ⟨g, 0, none⟩), .int .i64 a1] ?_; (with_reducible refine (spec_l1Cur_pick.calls g s0_0 s0_1 s0_2 a1 t369 t370 t371 w0 _ ?side1 ?side2 A3.out).mono ?_); (case side1 => repeat (first | exact HI0.out | apply IsS102.alloc | apply IsS102.drewN | apply IsS102.drew | apply IsS102.set_1 | apply IsS102.set_2)); (case side2 => exact zBs HB (IsS102.ge HI0.out)); rintro e w4 ⟨rfl, hi, hb, hk⟩; refine ⟨_, rfl, ?_⟩; replace HK := zk (KeepBut.trans (zK HK) hk (.inl rfl)); replace HB := zk (hb); replace HI0 := zk (hi); (try clear hb); (try clear hb2); (try clear hk); (try clear hi)))
 go_ret
 exact ⟨by first | rfl | (simp [errW_none, errW_some] <;> rfl) | (simp [*, errW_none, errW_some] <;> rfl), by repeat (first | exact HI0.out | apply IsS102.alloc | apply IsS102.drewN | apply IsS102.drew | apply IsS102.set_1 | apply IsS102.set_2), by repeat (first | (with_reducible first | exact HB.out | apply za | apply zd | apply ze | refine below_set ?_ (IsS102.ge HI0.out)) | exact HB.out), by repeat (first | exact HK.out | apply KeepBut.set_ | apply keep_drewN | apply keep_drew | apply keep_alloc)⟩

/-! ### spec_l1Cur_pattern3: function 233 -/
def spec_l1Cur_pattern3.f (k : Nat) (s0_0 : List Int) (s0_1 : Int) (s0_2 : Int) : Option (List Int × Int × Int) := (some (([(([2, 3, 1] : List Int)), (([1, 2, 3] : List Int)), (([3, 2, 1] : List Int)), (([1, 3, 2] : List Int)), (([2, 1] : List Int)), (([1, 2] : List Int)), (([2, 1, 3] : List Int)), (([3, 1, 2] : List Int)), (([2, 4, 1, 3] : List Int)), (([1, 3, 2, 4] : List Int)), (([1] : List Int))] : List (List Int)) : List (List Int))).bind fun y405 => ((spec_l1Cur_one.f s0_0 s0_1 s0_2 5).bind fun bt408 => (if bt408.1 = true then ((spec_l1Cur_order.f k s0_0 bt408.2.1 bt408.2.2).bind fun bt411 => (some (bt411.1, bt411.2.1, bt411.2.2))) else ((spec_l1Cur_pick.f s0_0 bt408.2.1 bt408.2.2 (y405.length : Int)).bind fun bt416 => (if 0 ≤ bt416.1 then (if bt416.1 < (y405.length : Int) then ((spec_l1Own.f (rd_L1 y405 bt416.1)).bind fun t420 => (some (t420, bt416.2.1, bt416.2.2))) else (none)) else (none)))))
set_option maxHeartbeats 8000000 in
set_option maxRecDepth 100000 in
theorem spec_l1Cur_pattern3.calls (k : Nat) (g : Nat) (s0_0 : List Int) (s0_1 : Int) (s0_2 : Int) (r1 : List Int) (r2 : Int) (r3 : Int) (w0 w : World) (hI : IsS102 w0 w g s0_0 s0_1 s0_2) (hB : Below w0.heap.size w0 w) (h : spec_l1Cur_pattern3.f k s0_0 s0_1 s0_2 = some (r1, r2, r3)) :
 Calls Try.prog 233 #[.pointer (some ⟨g, 0, none⟩)] w fun e w' => ∃ v0_ : Value, e = .returned (v0_) ∧ Kd.R (Kd.int .i64) 3 w' w.heap.size (fun _ => True) v0_ r1 ∧ IsS102 w0 w' g s0_0 r2 r3 ∧ Below w0.heap.size w0 w' ∧ KeepBut w w' g none := by
 have HI0 := zk hI
 have HK := zk (KeepBut.refl w g none)
 have HL := zk hB.size
 clear hI
 have HW0 := zk hB.size
 have HB := zk hB
 clear hB
 have H := h
 unfold spec_l1Cur_pattern3.f at H
 clear h
 obtain ⟨y372, hy372⟩ : ∃ y_ : List Int, y_ = (([2, 3, 1] : List Int)) := ⟨_, rfl⟩
 rw [← hy372] at H
 try rw [zO y372] at H
 try dsimp only at H
 have Ny372 := zk hy372
 clear hy372
 obtain ⟨y375, hy375⟩ : ∃ y_ : List Int, y_ = (([1, 2, 3] : List Int)) := ⟨_, rfl⟩
 rw [← hy375] at H
 try rw [zO y375] at H
 try dsimp only at H
 have Ny375 := zk hy375
 clear hy375
 obtain ⟨y378, hy378⟩ : ∃ y_ : List Int, y_ = (([3, 2, 1] : List Int)) := ⟨_, rfl⟩
 rw [← hy378] at H
 try rw [zO y378] at H
 try dsimp only at H
 have Ny378 := zk hy378
 clear hy378
 obtain ⟨y381, hy381⟩ : ∃ y_ : List Int, y_ = (([1, 3, 2] : List Int)) := ⟨_, rfl⟩
 rw [← hy381] at H
 try rw [zO y381] at H
 try dsimp only at H
 have Ny381 := zk hy381
 clear hy381
 obtain ⟨y384, hy384⟩ : ∃ y_ : List Int, y_ = (([2, 1] : List Int)) := ⟨_, rfl⟩
 rw [← hy384] at H
 try rw [zO y384] at H
 try dsimp only at H
 have Ny384 := zk hy384
 clear hy384
 obtain ⟨y387, hy387⟩ : ∃ y_ : List Int, y_ = (([1, 2] : List Int)) := ⟨_, rfl⟩
 replace H : ((some (([y372, y375, y378, y381, y384, y387, (([2, 1, 3] : List Int)), (([3, 1, 2] : List Int)), (([2, 4, 1, 3] : List Int)), (([1, 3, 2, 4] : List Int)), (([1] : List Int))] : List (List Int)) : List (List Int))).bind fun y405 => ((spec_l1Cur_one.f s0_0 s0_1 s0_2 5).bind fun bt408 => (if bt408.1 = true then ((spec_l1Cur_order.f k s0_0 bt408.2.1 bt408.2.2).bind fun bt411 => (some (bt411.1, bt411.2.1, bt411.2.2))) else ((spec_l1Cur_pick.f s0_0 bt408.2.1 bt408.2.2 (y405.length : Int)).bind fun bt416 => (if 0 ≤ bt416.1 then (if bt416.1 < (y405.length : Int) then ((spec_l1Own.f (rd_L1 y405 bt416.1)).bind fun t420 => (some (t420, bt416.2.1, bt416.2.2))) else (none)) else (none)))))) = some (r1, r2, r3) := by first | (rw [hy387]; with_reducible exact H) | (have H2_ := (Option.bind_some _ _).symm.trans H; rw [hy387]; with_reducible exact H2_) | (have H2_ := (Option.bind_some _ _).symm.trans H; with_reducible exact H2_) | with_reducible exact H | (rw [hy387]; exact H) | exact H
 have Ny387 := zk hy387
 clear hy387
 obtain ⟨y390, hy390⟩ : ∃ y_ : List Int, y_ = (([2, 1, 3] : List Int)) := ⟨_, rfl⟩
 rw [← hy390] at H
 try rw [zO y390] at H
 try dsimp only at H
 have Ny390 := zk hy390
 clear hy390
 obtain ⟨y393, hy393⟩ : ∃ y_ : List Int, y_ = (([3, 1, 2] : List Int)) := ⟨_, rfl⟩
 rw [← hy393] at H
 try rw [zO y393] at H
 try dsimp only at H
 have Ny393 := zk hy393
 clear hy393
 obtain ⟨y396, hy396⟩ : ∃ y_ : List Int, y_ = (([2, 4, 1, 3] : List Int)) := ⟨_, rfl⟩
 rw [← hy396] at H
 try rw [zO y396] at H
 try dsimp only at H
 have Ny396 := zk hy396
 clear hy396
 obtain ⟨y399, hy399⟩ : ∃ y_ : List Int, y_ = (([1, 3, 2, 4] : List Int)) := ⟨_, rfl⟩
 rw [← hy399] at H
 try rw [zO y399] at H
 try dsimp only at H
 have Ny399 := zk hy399
 clear hy399
 obtain ⟨y402, hy402⟩ : ∃ y_ : List Int, y_ = (([1] : List Int)) := ⟨_, rfl⟩
 rw [← hy402] at H
 try rw [zO y402] at H
 try dsimp only at H
 have Ny402 := zk hy402
 clear hy402
 obtain ⟨y405, hy405⟩ : ∃ y_ : List (List Int), y_ = (([y372, y375, y378, y381, y384, y387, y390, y393, y396, y399, y402] : List (List Int))) := ⟨_, rfl⟩
 rw [← hy405] at H
 try rw [zO y405] at H
 try dsimp only at H
 have Ny405 := zk hy405
 clear hy405
 replace H := Option.bind_eq_some_iff.mp H
 obtain ⟨⟨t408, t409, t410⟩, A20, H⟩ := H
 try dsimp only at H
 have A2 := zk A20
 clear A20
 by_cases c3 : t408 = true
 rotate_left
 · replace c3 := Bool.eq_false_iff.mpr c3
   subst c3
   have H1 : ((spec_l1Cur_pick.f s0_0 t409 t410 (y405.length : Int)).bind fun bt416 => (if 0 ≤ bt416.1 then (if bt416.1 < (y405.length : Int) then ((spec_l1Own.f (rd_L1 y405 bt416.1)).bind fun t420 => (some (t420, bt416.2.1, bt416.2.2))) else (none)) else (none))) = some (r1, r2, r3) := by rw [if_neg (show ¬ (false = true) by decide)] at H; exact H
   clear H
   have H := H1
   clear H1
   replace H := Option.bind_eq_some_iff.mp H
   obtain ⟨⟨t416, t417, t418⟩, A420, H⟩ := H
   try dsimp only at H
   have A42 := zk A420
   clear A420
   by_cases c43 : 0 ≤ t416
   rotate_left
   · rw [if_neg c43] at H
     exact absurd H (by simp)
   rw [if_pos c43] at H
   have c43b0 := decide_eq_true c43
   clear c43
   by_cases c44 : t416 < (y405.length : Int)
   rotate_left
   · rw [if_neg c44] at H
     exact absurd H (by simp)
   rw [if_pos c44] at H
   have c44b0 := decide_eq_true c44
   clear c44
   replace H := Option.bind_eq_some_iff.mp H
   obtain ⟨t420, A450, H⟩ := H
   try dsimp only at H
   have A45 := zk A450
   clear A450
   simp only [Option.some.injEq, Prod.mk.injEq] at H
   obtain ⟨rfl, rfl, rfl⟩ := H
   go_enter Try.func233, Try.ntmps233
   go_wp2_with (first | ((with_reducible refine gate_dst (N := 4) rfl ?_); refine zL 4 3 [2, 3, 1] (Below.refl _ _) (Nat.le_refl _) ?_; intro v373 w46 ho47 hb hg_ hnew_; clear hg_ hnew_; (first | rw [← Ny372.out] at ho47 | (simp only [Int.reduceToNat] at ho47; rw [← Ny372.out] at ho47)); have HO374 := zk (Kd.R_lower ho47 (keep_size (w := w) (g := g) (row := none) (zK HK))); replace HK := zk (KeepBut.trans (zK HK) (KeepBut.of_below hb g none) (.inl rfl)); replace HB := zk (below_step (zBs HB (IsS102.ge HI0.out)) hb); replace HI0 := zk (IsS102.below (by repeat (first | exact HI0.out | apply IsS102.alloc | apply IsS102.drewN | apply IsS102.drew | apply IsS102.set_1 | apply IsS102.set_2)) hb); clear hb ho47) | ((with_reducible refine gate_dst (N := 5) rfl ?_); refine zL 5 3 [1, 2, 3] (Below.refl _ _) (Nat.le_refl _) ?_; intro v376 w48 ho49 hb hg_ hnew_; clear hg_ hnew_; (first | rw [← Ny375.out] at ho49 | (simp only [Int.reduceToNat] at ho49; rw [← Ny375.out] at ho49)); have HO377 := zk (Kd.R_lower (Kd.R_new' ho49 (Kd.R_lt (zR HO374))) (keep_size (w := w) (g := g) (row := none) (zK HK))); replace HO374 := zE HO374 ho49 hb; replace HK := zk (KeepBut.trans (zK HK) (KeepBut.of_below hb g none) (.inl rfl)); replace HB := zk (below_step (zBs HB (IsS102.ge HI0.out)) hb); replace HI0 := zk (IsS102.below (by repeat (first | exact HI0.out | apply IsS102.alloc | apply IsS102.drewN | apply IsS102.drew | apply IsS102.set_1 | apply IsS102.set_2)) hb); clear hb ho49) | ((with_reducible refine gate_dst (N := 6) rfl ?_); refine zL 6 3 [3, 2, 1] (Below.refl _ _) (Nat.le_refl _) ?_; intro v379 w50 ho51 hb hg_ hnew_; clear hg_ hnew_; (first | rw [← Ny378.out] at ho51 | (simp only [Int.reduceToNat] at ho51; rw [← Ny378.out] at ho51)); have HO380 := zk (Kd.R_lower (Kd.R_new' (Kd.R_new' ho51 (Kd.R_lt (zR HO374))) (Kd.R_lt (zR HO377))) (keep_size (w := w) (g := g) (row := none) (zK HK))); replace HO374 := zE HO374 ho51 hb; replace HO377 := zE HO377 ho51 hb; replace HK := zk (KeepBut.trans (zK HK) (KeepBut.of_below hb g none) (.inl rfl)); replace HB := zk (below_step (zBs HB (IsS102.ge HI0.out)) hb); replace HI0 := zk (IsS102.below (by repeat (first | exact HI0.out | apply IsS102.alloc | apply IsS102.drewN | apply IsS102.drew | apply IsS102.set_1 | apply IsS102.set_2)) hb); clear hb ho51) | ((with_reducible refine gate_dst (N := 7) rfl ?_); refine zL 7 3 [1, 3, 2] (Below.refl _ _) (Nat.le_refl _) ?_; intro v382 w52 ho53 hb hg_ hnew_; clear hg_ hnew_; (first | rw [← Ny381.out] at ho53 | (simp only [Int.reduceToNat] at ho53; rw [← Ny381.out] at ho53)); have HO383 := zk (Kd.R_lower (Kd.R_new' (Kd.R_new' (Kd.R_new' ho53 (Kd.R_lt (zR HO374))) (Kd.R_lt (zR HO377))) (Kd.R_lt (zR HO380))) (keep_size (w := w) (g := g) (row := none) (zK HK))); replace HO374 := zE HO374 ho53 hb; replace HO377 := zE HO377 ho53 hb; replace HO380 := zE HO380 ho53 hb; replace HK := zk (KeepBut.trans (zK HK) (KeepBut.of_below hb g none) (.inl rfl)); replace HB := zk (below_step (zBs HB (IsS102.ge HI0.out)) hb); replace HI0 := zk (IsS102.below (by repeat (first | exact HI0.out | apply IsS102.alloc | apply IsS102.drewN | apply IsS102.drew | apply IsS102.set_1 | apply IsS102.set_2)) hb); clear hb ho53) | ((with_reducible refine gate_dst (N := 8) rfl ?_); refine zL 8 3 [2, 1] (Below.refl _ _) (Nat.le_refl _) ?_; intro v385 w54 ho55 hb hg_ hnew_; clear hg_ hnew_; (first | rw [← Ny384.out] at ho55 | (simp only [Int.reduceToNat] at ho55; rw [← Ny384.out] at ho55)); have HO386 := zk (Kd.R_lower (Kd.R_new' (Kd.R_new' (Kd.R_new' (Kd.R_new' ho55 (Kd.R_lt (zR HO374))) (Kd.R_lt (zR HO377))) (Kd.R_lt (zR HO380))) (Kd.R_lt (zR HO383))) (keep_size (w := w) (g := g) (row := none) (zK HK))); replace HO374 := zE HO374 ho55 hb; replace HO377 := zE HO377 ho55 hb; replace HO380 := zE HO380 ho55 hb; replace HO383 := zE HO383 ho55 hb; replace HK := zk (KeepBut.trans (zK HK) (KeepBut.of_below hb g none) (.inl rfl)); replace HB := zk (below_step (zBs HB (IsS102.ge HI0.out)) hb); replace HI0 := zk (IsS102.below (by repeat (first | exact HI0.out | apply IsS102.alloc | apply IsS102.drewN | apply IsS102.drew | apply IsS102.set_1 | apply IsS102.set_2)) hb); clear hb ho55) | ((with_reducible refine gate_dst (N := 9) rfl ?_); refine zL 9 3 [1, 2] (Below.refl _ _) (Nat.le_refl _) ?_; intro v388 w56 ho57 hb hg_ hnew_; clear hg_ hnew_; (first | rw [← Ny387.out] at ho57 | (simp only [Int.reduceToNat] at ho57; rw [← Ny387.out] at ho57)); have HO389 := zk (Kd.R_lower (Kd.R_new' (Kd.R_new' (Kd.R_new' (Kd.R_new' (Kd.R_new' ho57 (Kd.R_lt (zR HO374))) (Kd.R_lt (zR HO377))) (Kd.R_lt (zR HO380))) (Kd.R_lt (zR HO383))) (Kd.R_lt (zR HO386))) (keep_size (w := w) (g := g) (row := none) (zK HK))); replace HO374 := zE HO374 ho57 hb; replace HO377 := zE HO377 ho57 hb; replace HO380 := zE HO380 ho57 hb; replace HO383 := zE HO383 ho57 hb; replace HO386 := zE HO386 ho57 hb; replace HK := zk (KeepBut.trans (zK HK) (KeepBut.of_below hb g none) (.inl rfl)); replace HB := zk (below_step (zBs HB (IsS102.ge HI0.out)) hb); replace HI0 := zk (IsS102.below (by repeat (first | exact HI0.out | apply IsS102.alloc | apply IsS102.drewN | apply IsS102.drew | apply IsS102.set_1 | apply IsS102.set_2)) hb); clear hb ho57) | ((with_reducible refine gate_dst (N := 10) rfl ?_); refine zL 10 3 [2, 1, 3] (Below.refl _ _) (Nat.le_refl _) ?_; intro v391 w58 ho59 hb hg_ hnew_; clear hg_ hnew_; (first | rw [← Ny390.out] at ho59 | (simp only [Int.reduceToNat] at ho59; rw [← Ny390.out] at ho59)); have HO392 := zk (Kd.R_lower (Kd.R_new' (Kd.R_new' (Kd.R_new' (Kd.R_new' (Kd.R_new' (Kd.R_new' ho59 (Kd.R_lt (zR HO374))) (Kd.R_lt (zR HO377))) (Kd.R_lt (zR HO380))) (Kd.R_lt (zR HO383))) (Kd.R_lt (zR HO386))) (Kd.R_lt (zR HO389))) (keep_size (w := w) (g := g) (row := none) (zK HK))); replace HO374 := zE HO374 ho59 hb; replace HO377 := zE HO377 ho59 hb; replace HO380 := zE HO380 ho59 hb; replace HO383 := zE HO383 ho59 hb; replace HO386 := zE HO386 ho59 hb; replace HO389 := zE HO389 ho59 hb; replace HK := zk (KeepBut.trans (zK HK) (KeepBut.of_below hb g none) (.inl rfl)); replace HB := zk (below_step (zBs HB (IsS102.ge HI0.out)) hb); replace HI0 := zk (IsS102.below (by repeat (first | exact HI0.out | apply IsS102.alloc | apply IsS102.drewN | apply IsS102.drew | apply IsS102.set_1 | apply IsS102.set_2)) hb); clear hb ho59) | ((with_reducible refine gate_dst (N := 11) rfl ?_); refine zL 11 3 [3, 1, 2] (Below.refl _ _) (Nat.le_refl _) ?_; intro v394 w60 ho61 hb hg_ hnew_; clear hg_ hnew_; (first | rw [← Ny393.out] at ho61 | (simp only [Int.reduceToNat] at ho61; rw [← Ny393.out] at ho61)); have HO395 := zk (Kd.R_lower (Kd.R_new' (Kd.R_new' (Kd.R_new' (Kd.R_new' (Kd.R_new' (Kd.R_new' (Kd.R_new' ho61 (Kd.R_lt (zR HO374))) (Kd.R_lt (zR HO377))) (Kd.R_lt (zR HO380))) (Kd.R_lt (zR HO383))) (Kd.R_lt (zR HO386))) (Kd.R_lt (zR HO389))) (Kd.R_lt (zR HO392))) (keep_size (w := w) (g := g) (row := none) (zK HK))); replace HO374 := zE HO374 ho61 hb; replace HO377 := zE HO377 ho61 hb; replace HO380 := zE HO380 ho61 hb; replace HO383 := zE HO383 ho61 hb; replace HO386 := zE HO386 ho61 hb; replace HO389 := zE HO389 ho61 hb; replace HO392 := zE HO392 ho61 hb; replace HK := zk (KeepBut.trans (zK HK) (KeepBut.of_below hb g none) (.inl rfl)); replace HB := zk (below_step (zBs HB (IsS102.ge HI0.out)) hb); replace HI0 := zk (IsS102.below (by repeat (first | exact HI0.out | apply IsS102.alloc | apply IsS102.drewN | apply IsS102.drew | apply IsS102.set_1 | apply IsS102.set_2)) hb); clear hb ho61) | ((with_reducible refine gate_dst (N := 12) rfl ?_); refine zL 12 3 [2, 4, 1, 3] (Below.refl _ _) (Nat.le_refl _) ?_; intro v397 w62 ho63 hb hg_ hnew_; clear hg_ hnew_; (first | rw [← Ny396.out] at ho63 | (simp only [Int.reduceToNat] at ho63; rw [← Ny396.out] at ho63)); have HO398 := zk (Kd.R_lower (Kd.R_new' (Kd.R_new' (Kd.R_new' (Kd.R_new' (Kd.R_new' (Kd.R_new' (Kd.R_new' (Kd.R_new' ho63 (Kd.R_lt (zR HO374))) (Kd.R_lt (zR HO377))) (Kd.R_lt (zR HO380))) (Kd.R_lt (zR HO383))) (Kd.R_lt (zR HO386))) (Kd.R_lt (zR HO389))) (Kd.R_lt (zR HO392))) (Kd.R_lt (zR HO395))) (keep_size (w := w) (g := g) (row := none) (zK HK))); replace HO374 := zE HO374 ho63 hb; replace HO377 := zE HO377 ho63 hb; replace HO380 := zE HO380 ho63 hb; replace HO383 := zE HO383 ho63 hb; replace HO386 := zE HO386 ho63 hb; replace HO389 := zE HO389 ho63 hb; replace HO392 := zE HO392 ho63 hb; replace HO395 := zE HO395 ho63 hb; replace HK := zk (KeepBut.trans (zK HK) (KeepBut.of_below hb g none) (.inl rfl)); replace HB := zk (below_step (zBs HB (IsS102.ge HI0.out)) hb); replace HI0 := zk (IsS102.below (by repeat (first | exact HI0.out | apply IsS102.alloc | apply IsS102.drewN | apply IsS102.drew | apply IsS102.set_1 | apply IsS102.set_2)) hb); clear hb ho63) | ((with_reducible refine gate_dst (N := 13) rfl ?_); refine zL 13 3 [1, 3, 2, 4] (Below.refl _ _) (Nat.le_refl _) ?_; intro v400 w64 ho65 hb hg_ hnew_; clear hg_ hnew_; (first | rw [← Ny399.out] at ho65 | (simp only [Int.reduceToNat] at ho65; rw [← Ny399.out] at ho65)); have HO401 := zk (Kd.R_lower (Kd.R_new' (Kd.R_new' (Kd.R_new' (Kd.R_new' (Kd.R_new' (Kd.R_new' (Kd.R_new' (Kd.R_new' (Kd.R_new' ho65 (Kd.R_lt (zR HO374))) (Kd.R_lt (zR HO377))) (Kd.R_lt (zR HO380))) (Kd.R_lt (zR HO383))) (Kd.R_lt (zR HO386))) (Kd.R_lt (zR HO389))) (Kd.R_lt (zR HO392))) (Kd.R_lt (zR HO395))) (Kd.R_lt (zR HO398))) (keep_size (w := w) (g := g) (row := none) (zK HK))); replace HO374 := zE HO374 ho65 hb; replace HO377 := zE HO377 ho65 hb; replace HO380 := zE HO380 ho65 hb; replace HO383 := zE HO383 ho65 hb; replace HO386 := zE HO386 ho65 hb; replace HO389 := zE HO389 ho65 hb; replace HO392 := zE HO392 ho65 hb; replace HO395 := zE HO395 ho65 hb; replace HO398 := zE HO398 ho65 hb; replace HK := zk (KeepBut.trans (zK HK) (KeepBut.of_below hb g none) (.inl rfl)); replace HB := zk (below_step (zBs HB (IsS102.ge HI0.out)) hb); replace HI0 := zk (IsS102.below (by repeat (first | exact HI0.out | apply IsS102.alloc | apply IsS102.drewN | apply IsS102.drew | apply IsS102.set_1 | apply IsS102.set_2)) hb); clear hb ho65) | ((with_reducible refine gate_dst (N := 14) rfl ?_); refine zL 14 3 [1] (Below.refl _ _) (Nat.le_refl _) ?_; intro v403 w66 ho67 hb hg_ hnew_; clear hg_ hnew_; (first | rw [← Ny402.out] at ho67 | (simp only [Int.reduceToNat] at ho67; rw [← Ny402.out] at ho67)); have HO404 := zk (Kd.R_lower (Kd.R_new' (Kd.R_new' (Kd.R_new' (Kd.R_new' (Kd.R_new' (Kd.R_new' (Kd.R_new' (Kd.R_new' (Kd.R_new' (Kd.R_new' ho67 (Kd.R_lt (zR HO374))) (Kd.R_lt (zR HO377))) (Kd.R_lt (zR HO380))) (Kd.R_lt (zR HO383))) (Kd.R_lt (zR HO386))) (Kd.R_lt (zR HO389))) (Kd.R_lt (zR HO392))) (Kd.R_lt (zR HO395))) (Kd.R_lt (zR HO398))) (Kd.R_lt (zR HO401))) (keep_size (w := w) (g := g) (row := none) (zK HK))); replace HO374 := zE HO374 ho67 hb; replace HO377 := zE HO377 ho67 hb; replace HO380 := zE HO380 ho67 hb; replace HO383 := zE HO383 ho67 hb; replace HO386 := zE HO386 ho67 hb; replace HO389 := zE HO389 ho67 hb; replace HO392 := zE HO392 ho67 hb; replace HO395 := zE HO395 ho67 hb; replace HO398 := zE HO398 ho67 hb; replace HO401 := zE HO401 ho67 hb; replace HK := zk (KeepBut.trans (zK HK) (KeepBut.of_below hb g none) (.inl rfl)); replace HB := zk (below_step (zBs HB (IsS102.ge HI0.out)) hb); replace HI0 := zk (IsS102.below (by repeat (first | exact HI0.out | apply IsS102.alloc | apply IsS102.drewN | apply IsS102.drew | apply IsS102.set_1 | apply IsS102.set_2)) hb); clear hb ho67; obtain ⟨Ao68, co68, eo68⟩ := Kd.R_slice HO374.out; subst eo68; obtain ⟨Ao69, co69, eo69⟩ := Kd.R_slice HO377.out; subst eo69; obtain ⟨Ao70, co70, eo70⟩ := Kd.R_slice HO380.out; subst eo70; obtain ⟨Ao71, co71, eo71⟩ := Kd.R_slice HO383.out; subst eo71; obtain ⟨Ao72, co72, eo72⟩ := Kd.R_slice HO386.out; subst eo72; obtain ⟨Ao73, co73, eo73⟩ := Kd.R_slice HO389.out; subst eo73; obtain ⟨Ao74, co74, eo74⟩ := Kd.R_slice HO392.out; subst eo74; obtain ⟨Ao75, co75, eo75⟩ := Kd.R_slice HO395.out; subst eo75; obtain ⟨Ao76, co76, eo76⟩ := Kd.R_slice HO398.out; subst eo76; obtain ⟨Ao77, co77, eo77⟩ := Kd.R_slice HO401.out; subst eo77; obtain ⟨Ao78, co78, eo78⟩ := Kd.R_slice HO404.out; subst eo78) | ((with_reducible refine gate_dst (N := 15) rfl ?_); refine Kd.N_lit (Kd.slice 3 (Kd.int .i64)) _ 22 ?hg (N' := 15) ?hd (xs := ([y372, y375, y378, y381, y384, y387, y390, y393, y396, y399, y402] : List (List Int))) (inner := [.slice Ao68 y372.length co68, .slice Ao69 y375.length co69, .slice Ao70 y378.length co70, .slice Ao71 y381.length co71, .slice Ao72 y384.length co72, .slice Ao73 y387.length co73, .slice Ao74 y390.length co74, .slice Ao75 y393.length co75, .slice Ao76 y396.length co76, .slice Ao77 y399.length co77, .slice Ao78 y402.length co78]) (ok := (fun k_ => k_ ≠ g)) (okp := (fun k_ => k_ ≠ g)) ?hr ?hp (fun _ hk => hk) ((show ∀ k_, w66.heap.size ≤ k_ → (fun k_ => k_ ≠ g) k_ from fun k_ hk => IsS102.fresh (by repeat (first | exact HI0.out | apply IsS102.alloc | apply IsS102.drewN | apply IsS102.drew | apply IsS102.set_1 | apply IsS102.set_2)) k_ hk) _ (Nat.le_refl _)) (Below.refl _ _) (Nat.le_refl _) (by simp) ?_; (case hd => rfl); (case hg => rfl); (case hr => first | (go_simp; done) | (go_simp; rfl)); (case hp => exact (Reps.one (show Kd.FK (Kd.slice 3 (Kd.int .i64)) _ _ y372 [.slice Ao68 y372.length co68] from (Kd.FK_slice_mk (Kd.R_reads' (Kd.R_mono (ok' := (fun k_ => k_ ≠ g)) (IsS102.apart HI0.out (HO374.out) (by decide)) (fun k_ hk => hk.2))).2.1 (Kd.R_F (Kd.R_mono (ok' := (fun k_ => k_ ≠ g)) (IsS102.apart HI0.out (HO374.out) (by decide)) (fun k_ hk => hk.2))))) (Reps.one (show Kd.FK (Kd.slice 3 (Kd.int .i64)) _ _ y375 [.slice Ao69 y375.length co69] from (Kd.FK_slice_mk (Kd.R_reads' (Kd.R_mono (ok' := (fun k_ => k_ ≠ g)) (IsS102.apart HI0.out (HO377.out) (by decide)) (fun k_ hk => hk.2))).2.1 (Kd.R_F (Kd.R_mono (ok' := (fun k_ => k_ ≠ g)) (IsS102.apart HI0.out (HO377.out) (by decide)) (fun k_ hk => hk.2))))) (Reps.one (show Kd.FK (Kd.slice 3 (Kd.int .i64)) _ _ y378 [.slice Ao70 y378.length co70] from (Kd.FK_slice_mk (Kd.R_reads' (Kd.R_mono (ok' := (fun k_ => k_ ≠ g)) (IsS102.apart HI0.out (HO380.out) (by decide)) (fun k_ hk => hk.2))).2.1 (Kd.R_F (Kd.R_mono (ok' := (fun k_ => k_ ≠ g)) (IsS102.apart HI0.out (HO380.out) (by decide)) (fun k_ hk => hk.2))))) (Reps.one (show Kd.FK (Kd.slice 3 (Kd.int .i64)) _ _ y381 [.slice Ao71 y381.length co71] from (Kd.FK_slice_mk (Kd.R_reads' (Kd.R_mono (ok' := (fun k_ => k_ ≠ g)) (IsS102.apart HI0.out (HO383.out) (by decide)) (fun k_ hk => hk.2))).2.1 (Kd.R_F (Kd.R_mono (ok' := (fun k_ => k_ ≠ g)) (IsS102.apart HI0.out (HO383.out) (by decide)) (fun k_ hk => hk.2))))) (Reps.one (show Kd.FK (Kd.slice 3 (Kd.int .i64)) _ _ y384 [.slice Ao72 y384.length co72] from (Kd.FK_slice_mk (Kd.R_reads' (Kd.R_mono (ok' := (fun k_ => k_ ≠ g)) (IsS102.apart HI0.out (HO386.out) (by decide)) (fun k_ hk => hk.2))).2.1 (Kd.R_F (Kd.R_mono (ok' := (fun k_ => k_ ≠ g)) (IsS102.apart HI0.out (HO386.out) (by decide)) (fun k_ hk => hk.2))))) (Reps.one (show Kd.FK (Kd.slice 3 (Kd.int .i64)) _ _ y387 [.slice Ao73 y387.length co73] from (Kd.FK_slice_mk (Kd.R_reads' (Kd.R_mono (ok' := (fun k_ => k_ ≠ g)) (IsS102.apart HI0.out (HO389.out) (by decide)) (fun k_ hk => hk.2))).2.1 (Kd.R_F (Kd.R_mono (ok' := (fun k_ => k_ ≠ g)) (IsS102.apart HI0.out (HO389.out) (by decide)) (fun k_ hk => hk.2))))) (Reps.one (show Kd.FK (Kd.slice 3 (Kd.int .i64)) _ _ y390 [.slice Ao74 y390.length co74] from (Kd.FK_slice_mk (Kd.R_reads' (Kd.R_mono (ok' := (fun k_ => k_ ≠ g)) (IsS102.apart HI0.out (HO392.out) (by decide)) (fun k_ hk => hk.2))).2.1 (Kd.R_F (Kd.R_mono (ok' := (fun k_ => k_ ≠ g)) (IsS102.apart HI0.out (HO392.out) (by decide)) (fun k_ hk => hk.2))))) (Reps.one (show Kd.FK (Kd.slice 3 (Kd.int .i64)) _ _ y393 [.slice Ao75 y393.length co75] from (Kd.FK_slice_mk (Kd.R_reads' (Kd.R_mono (ok' := (fun k_ => k_ ≠ g)) (IsS102.apart HI0.out (HO395.out) (by decide)) (fun k_ hk => hk.2))).2.1 (Kd.R_F (Kd.R_mono (ok' := (fun k_ => k_ ≠ g)) (IsS102.apart HI0.out (HO395.out) (by decide)) (fun k_ hk => hk.2))))) (Reps.one (show Kd.FK (Kd.slice 3 (Kd.int .i64)) _ _ y396 [.slice Ao76 y396.length co76] from (Kd.FK_slice_mk (Kd.R_reads' (Kd.R_mono (ok' := (fun k_ => k_ ≠ g)) (IsS102.apart HI0.out (HO398.out) (by decide)) (fun k_ hk => hk.2))).2.1 (Kd.R_F (Kd.R_mono (ok' := (fun k_ => k_ ≠ g)) (IsS102.apart HI0.out (HO398.out) (by decide)) (fun k_ hk => hk.2))))) (Reps.one (show Kd.FK (Kd.slice 3 (Kd.int .i64)) _ _ y399 [.slice Ao77 y399.length co77] from (Kd.FK_slice_mk (Kd.R_reads' (Kd.R_mono (ok' := (fun k_ => k_ ≠ g)) (IsS102.apart HI0.out (HO401.out) (by decide)) (fun k_ hk => hk.2))).2.1 (Kd.R_F (Kd.R_mono (ok' := (fun k_ => k_ ≠ g)) (IsS102.apart HI0.out (HO401.out) (by decide)) (fun k_ hk => hk.2))))) (Reps.one (show Kd.FK (Kd.slice 3 (Kd.int .i64)) _ _ y402 [.slice Ao78 y402.length co78] from (Kd.FK_slice_mk (Kd.R_reads' (Kd.R_mono (ok' := (fun k_ => k_ ≠ g)) (IsS102.apart HI0.out (HO404.out) (by decide)) (fun k_ hk => hk.2))).2.1 (Kd.R_F (Kd.R_mono (ok' := (fun k_ => k_ ≠ g)) (IsS102.apart HI0.out (HO404.out) (by decide)) (fun k_ hk => hk.2))))) (Reps.none _ _))))))))))))); intro v406 w79 ho80 hb hg_ hnew_; clear hg_ hnew_; (first | rw [← Ny405.out] at ho80 | (simp only [Int.reduceToNat] at ho80; rw [← Ny405.out] at ho80)); have HO407 := zk (Kd.N_lower ho80 (keep_size (w := w) (g := g) (row := none) (zK HK))); replace HK := zk (KeepBut.trans (zK HK) (KeepBut.of_below hb g none) (.inl rfl)); replace HB := zk (below_step (zBs HB (IsS102.ge HI0.out)) hb); replace HI0 := zk (IsS102.below (by repeat (first | exact HI0.out | apply IsS102.alloc | apply IsS102.drewN | apply IsS102.drew | apply IsS102.set_1 | apply IsS102.set_2)) hb); clear HO374 HO377 HO380 HO383 HO386 HO389 HO392 HO395 HO398 HO401 HO404; clear hb ho80) | ((with_reducible refine gate_callee (f := 164) rfl ?_); refine zG (some 17) Try.func164 #[.pointer (some ⟨g, 0, none⟩), .int .i64 5] ?_; (with_reducible refine (spec_l1Cur_one.calls g s0_0 s0_1 s0_2 5 false t409 t410 w0 _ ?side1 ?side2 A2.out).mono ?_); (case side1 => repeat (first | exact HI0.out | apply IsS102.alloc | apply IsS102.drewN | apply IsS102.drew | apply IsS102.set_1 | apply IsS102.set_2)); (case side2 => exact zBs HB (IsS102.ge HI0.out)); rintro e w81 ⟨rfl, hi, hb, hk⟩; refine ⟨_, rfl, ?_⟩; replace HO407 := zk (Kd.N_mono (Kd.N_keep (Kd.N_mono (ok := fun k_ => k_ ≠ g) (zN HO407) (fun k_ hk_ => (⟨hk_, hk_⟩ : _ ∧ k_ ≠ g))) hk (fun _ h => h.2)) (fun _ h => h.1)); replace HK := zk (KeepBut.trans (zK HK) hk (.inl rfl)); replace HB := zk (hb); replace HI0 := zk (hi); (try clear hb); (try clear hb2); (try clear hk); (try clear hi); obtain ⟨Ao82, co82, eo82⟩ := Kd.N_slice HO407.out; subst eo82) | ((with_reducible refine gate_callee (f := 192) rfl ?_); refine zG (some 24) Try.func192 #[.pointer (some ⟨g, 0, none⟩), .int .i64 (y405.length : Int)] ?_; (with_reducible refine (spec_l1Cur_pick.calls g s0_0 t409 t410 (y405.length : Int) t416 t417 t418 w0 _ ?side1 ?side2 A42.out).mono ?_); (case side1 => repeat (first | exact HI0.out | apply IsS102.alloc | apply IsS102.drewN | apply IsS102.drew | apply IsS102.set_1 | apply IsS102.set_2)); (case side2 => exact zBs HB (IsS102.ge HI0.out)); rintro e w83 ⟨rfl, hi, hb, hk⟩; refine ⟨_, rfl, ?_⟩; replace HO407 := zk (Kd.N_mono (Kd.N_keep (Kd.N_mono (ok := fun k_ => k_ ≠ g) (zN HO407) (fun k_ hk_ => (⟨hk_, hk_⟩ : _ ∧ k_ ≠ g))) hk (fun _ h => h.2)) (fun _ h => h.1)); replace HK := zk (KeepBut.trans (zK HK) hk (.inl rfl)); replace HB := zk (hb); replace HI0 := zk (hi); (try clear hb); (try clear hb2); (try clear hk); (try clear hi); have p419 : 0 ≤ (t416 : Int) := zo (by assumption); have q419 : t416 < (y405.length : Int) := zo (by assumption); obtain ⟨ad419, A419_0, c419_0, e419, hx419_0, hl419_0, hi419_0⟩ := at_L1 (Kd.N_reads' HO407.out).2.2 t416 p419 q419; cases e419; obtain ⟨ce419, hce419, hMe419, hcc419⟩ := Kd.N_get HO407.out [] t416 p419 (by first | exact q419 | exact zo (by assumption) | (have e_ := (Kd.N_reads' HO407.out).1; omega)); obtain ⟨ua419_0, uc419_0, rfl, ul419_0, ge419_0⟩ := Kd.FK_slice_open hMe419; have hv419_0 := hcc419 0 _ rfl; rw [Nat.add_zero, show ((Kd.slice 3 (Kd.int .i64))).sz = 1 from rfl, Nat.mul_one] at hv419_0; replace hv419_0 := Option.some.inj (hv419_0.symm.trans hx419_0); injection hv419_0 with hva_ hvn_ hvc_; rw [hva_] at ge419_0; rw [hvc_] at ul419_0; have HL419_0 := zk (show Kd.V (Kd.int .i64) 3 _ w.heap.size _ _ (rd_L1 y405 t416) from Kd.V_mk ul419_0 ge419_0); clear hva_ hvn_ hvc_ ge419_0 ul419_0; clear hcc419 hce419; have HR419_0 := zk hi419_0; have HC419_0 := zk hl419_0; clear hi419_0 hl419_0; replace p419 := eq_true p419; replace q419 := eq_true q419) | ((with_reducible refine gate_callee (f := 169) rfl ?_); refine zG (some 27) Try.func169 #[.slice A419_0 (rd_L1 y405 t416).length c419_0] ?_; (with_reducible refine (spec_l1Own.calls _ _ (rd_L1 y405 t416) t420 _ ?side1 ?side2 A45.out).mono ?_); (case side1 => exact zC HR419_0.out); (case side2 => exact HC419_0.out); rintro e w84 ⟨v421, rfl, ho0, hb⟩; refine ⟨_, rfl, ?_⟩; have HO422 := zk (Kd.R_lower ho0 (keep_size (w := w) (g := g) (row := none) (zK HK))); replace HO407 := zEN HO407 ho0 hb; replace HL419_0 := zk (Kd.V_elder' (zV HL419_0) (Kd.R_base ho0) hb); replace HR419_0 := zk (Kd.C_below (zC HR419_0.out) hb); replace HK := zk (KeepBut.trans (zK HK) (KeepBut.of_below hb g none) (.inl rfl)); replace HB := zk (below_step (zBs HB (IsS102.ge HI0.out)) hb); replace HI0 := zk (IsS102.below (by repeat (first | exact HI0.out | apply IsS102.alloc | apply IsS102.drewN | apply IsS102.drew | apply IsS102.set_1 | apply IsS102.set_2)) hb); (try clear hb ho0)))
   go_ret
   exact ⟨_, by first | rfl | (simp [errW_none, errW_some] <;> rfl) | (simp [*, errW_none, errW_some] <;> rfl), by (with_reducible repeat (first | apply zs | apply zr | apply zt)); exact HO422.out, by repeat (first | exact HI0.out | apply IsS102.alloc | apply IsS102.drewN | apply IsS102.drew | apply IsS102.set_1 | apply IsS102.set_2), by repeat (first | (with_reducible first | exact HB.out | apply za | apply zd | apply ze | refine below_set ?_ (IsS102.ge HI0.out)) | exact HB.out), by repeat (first | exact HK.out | apply KeepBut.set_ | apply keep_drewN | apply keep_drew | apply keep_alloc)⟩
 subst c3
 have H1 : ((spec_l1Cur_order.f k s0_0 t409 t410).bind fun bt411 => (some (bt411.1, bt411.2.1, bt411.2.2))) = some (r1, r2, r3) := by rw [if_pos rfl] at H; exact H
 clear H
 have H := H1
 clear H1
 replace H := Option.bind_eq_some_iff.mp H
 obtain ⟨⟨t411, t414, t415⟩, A40, H⟩ := H
 try dsimp only at H
 have A4 := zk A40
 clear A40
 simp only [Option.some.injEq, Prod.mk.injEq] at H
 obtain ⟨rfl, rfl, rfl⟩ := H
 go_enter Try.func233, Try.ntmps233
 go_wp2_with (first | ((with_reducible refine gate_dst (N := 4) rfl ?_); refine zL 4 3 [2, 3, 1] (Below.refl _ _) (Nat.le_refl _) ?_; intro v373 w5 ho6 hb hg_ hnew_; clear hg_ hnew_; (first | rw [← Ny372.out] at ho6 | (simp only [Int.reduceToNat] at ho6; rw [← Ny372.out] at ho6)); have HO374 := zk (Kd.R_lower ho6 (keep_size (w := w) (g := g) (row := none) (zK HK))); replace HK := zk (KeepBut.trans (zK HK) (KeepBut.of_below hb g none) (.inl rfl)); replace HB := zk (below_step (zBs HB (IsS102.ge HI0.out)) hb); replace HI0 := zk (IsS102.below (by repeat (first | exact HI0.out | apply IsS102.alloc | apply IsS102.drewN | apply IsS102.drew | apply IsS102.set_1 | apply IsS102.set_2)) hb); clear hb ho6) | ((with_reducible refine gate_dst (N := 5) rfl ?_); refine zL 5 3 [1, 2, 3] (Below.refl _ _) (Nat.le_refl _) ?_; intro v376 w7 ho8 hb hg_ hnew_; clear hg_ hnew_; (first | rw [← Ny375.out] at ho8 | (simp only [Int.reduceToNat] at ho8; rw [← Ny375.out] at ho8)); have HO377 := zk (Kd.R_lower (Kd.R_new' ho8 (Kd.R_lt (zR HO374))) (keep_size (w := w) (g := g) (row := none) (zK HK))); replace HO374 := zE HO374 ho8 hb; replace HK := zk (KeepBut.trans (zK HK) (KeepBut.of_below hb g none) (.inl rfl)); replace HB := zk (below_step (zBs HB (IsS102.ge HI0.out)) hb); replace HI0 := zk (IsS102.below (by repeat (first | exact HI0.out | apply IsS102.alloc | apply IsS102.drewN | apply IsS102.drew | apply IsS102.set_1 | apply IsS102.set_2)) hb); clear hb ho8) | ((with_reducible refine gate_dst (N := 6) rfl ?_); refine zL 6 3 [3, 2, 1] (Below.refl _ _) (Nat.le_refl _) ?_; intro v379 w9 ho10 hb hg_ hnew_; clear hg_ hnew_; (first | rw [← Ny378.out] at ho10 | (simp only [Int.reduceToNat] at ho10; rw [← Ny378.out] at ho10)); have HO380 := zk (Kd.R_lower (Kd.R_new' (Kd.R_new' ho10 (Kd.R_lt (zR HO374))) (Kd.R_lt (zR HO377))) (keep_size (w := w) (g := g) (row := none) (zK HK))); replace HO374 := zE HO374 ho10 hb; replace HO377 := zE HO377 ho10 hb; replace HK := zk (KeepBut.trans (zK HK) (KeepBut.of_below hb g none) (.inl rfl)); replace HB := zk (below_step (zBs HB (IsS102.ge HI0.out)) hb); replace HI0 := zk (IsS102.below (by repeat (first | exact HI0.out | apply IsS102.alloc | apply IsS102.drewN | apply IsS102.drew | apply IsS102.set_1 | apply IsS102.set_2)) hb); clear hb ho10) | ((with_reducible refine gate_dst (N := 7) rfl ?_); refine zL 7 3 [1, 3, 2] (Below.refl _ _) (Nat.le_refl _) ?_; intro v382 w11 ho12 hb hg_ hnew_; clear hg_ hnew_; (first | rw [← Ny381.out] at ho12 | (simp only [Int.reduceToNat] at ho12; rw [← Ny381.out] at ho12)); have HO383 := zk (Kd.R_lower (Kd.R_new' (Kd.R_new' (Kd.R_new' ho12 (Kd.R_lt (zR HO374))) (Kd.R_lt (zR HO377))) (Kd.R_lt (zR HO380))) (keep_size (w := w) (g := g) (row := none) (zK HK))); replace HO374 := zE HO374 ho12 hb; replace HO377 := zE HO377 ho12 hb; replace HO380 := zE HO380 ho12 hb; replace HK := zk (KeepBut.trans (zK HK) (KeepBut.of_below hb g none) (.inl rfl)); replace HB := zk (below_step (zBs HB (IsS102.ge HI0.out)) hb); replace HI0 := zk (IsS102.below (by repeat (first | exact HI0.out | apply IsS102.alloc | apply IsS102.drewN | apply IsS102.drew | apply IsS102.set_1 | apply IsS102.set_2)) hb); clear hb ho12) | ((with_reducible refine gate_dst (N := 8) rfl ?_); refine zL 8 3 [2, 1] (Below.refl _ _) (Nat.le_refl _) ?_; intro v385 w13 ho14 hb hg_ hnew_; clear hg_ hnew_; (first | rw [← Ny384.out] at ho14 | (simp only [Int.reduceToNat] at ho14; rw [← Ny384.out] at ho14)); have HO386 := zk (Kd.R_lower (Kd.R_new' (Kd.R_new' (Kd.R_new' (Kd.R_new' ho14 (Kd.R_lt (zR HO374))) (Kd.R_lt (zR HO377))) (Kd.R_lt (zR HO380))) (Kd.R_lt (zR HO383))) (keep_size (w := w) (g := g) (row := none) (zK HK))); replace HO374 := zE HO374 ho14 hb; replace HO377 := zE HO377 ho14 hb; replace HO380 := zE HO380 ho14 hb; replace HO383 := zE HO383 ho14 hb; replace HK := zk (KeepBut.trans (zK HK) (KeepBut.of_below hb g none) (.inl rfl)); replace HB := zk (below_step (zBs HB (IsS102.ge HI0.out)) hb); replace HI0 := zk (IsS102.below (by repeat (first | exact HI0.out | apply IsS102.alloc | apply IsS102.drewN | apply IsS102.drew | apply IsS102.set_1 | apply IsS102.set_2)) hb); clear hb ho14) | ((with_reducible refine gate_dst (N := 9) rfl ?_); refine zL 9 3 [1, 2] (Below.refl _ _) (Nat.le_refl _) ?_; intro v388 w15 ho16 hb hg_ hnew_; clear hg_ hnew_; (first | rw [← Ny387.out] at ho16 | (simp only [Int.reduceToNat] at ho16; rw [← Ny387.out] at ho16)); have HO389 := zk (Kd.R_lower (Kd.R_new' (Kd.R_new' (Kd.R_new' (Kd.R_new' (Kd.R_new' ho16 (Kd.R_lt (zR HO374))) (Kd.R_lt (zR HO377))) (Kd.R_lt (zR HO380))) (Kd.R_lt (zR HO383))) (Kd.R_lt (zR HO386))) (keep_size (w := w) (g := g) (row := none) (zK HK))); replace HO374 := zE HO374 ho16 hb; replace HO377 := zE HO377 ho16 hb; replace HO380 := zE HO380 ho16 hb; replace HO383 := zE HO383 ho16 hb; replace HO386 := zE HO386 ho16 hb; replace HK := zk (KeepBut.trans (zK HK) (KeepBut.of_below hb g none) (.inl rfl)); replace HB := zk (below_step (zBs HB (IsS102.ge HI0.out)) hb); replace HI0 := zk (IsS102.below (by repeat (first | exact HI0.out | apply IsS102.alloc | apply IsS102.drewN | apply IsS102.drew | apply IsS102.set_1 | apply IsS102.set_2)) hb); clear hb ho16) | ((with_reducible refine gate_dst (N := 10) rfl ?_); refine zL 10 3 [2, 1, 3] (Below.refl _ _) (Nat.le_refl _) ?_; intro v391 w17 ho18 hb hg_ hnew_; clear hg_ hnew_; (first | rw [← Ny390.out] at ho18 | (simp only [Int.reduceToNat] at ho18; rw [← Ny390.out] at ho18)); have HO392 := zk (Kd.R_lower (Kd.R_new' (Kd.R_new' (Kd.R_new' (Kd.R_new' (Kd.R_new' (Kd.R_new' ho18 (Kd.R_lt (zR HO374))) (Kd.R_lt (zR HO377))) (Kd.R_lt (zR HO380))) (Kd.R_lt (zR HO383))) (Kd.R_lt (zR HO386))) (Kd.R_lt (zR HO389))) (keep_size (w := w) (g := g) (row := none) (zK HK))); replace HO374 := zE HO374 ho18 hb; replace HO377 := zE HO377 ho18 hb; replace HO380 := zE HO380 ho18 hb; replace HO383 := zE HO383 ho18 hb; replace HO386 := zE HO386 ho18 hb; replace HO389 := zE HO389 ho18 hb; replace HK := zk (KeepBut.trans (zK HK) (KeepBut.of_below hb g none) (.inl rfl)); replace HB := zk (below_step (zBs HB (IsS102.ge HI0.out)) hb); replace HI0 := zk (IsS102.below (by repeat (first | exact HI0.out | apply IsS102.alloc | apply IsS102.drewN | apply IsS102.drew | apply IsS102.set_1 | apply IsS102.set_2)) hb); clear hb ho18) | ((with_reducible refine gate_dst (N := 11) rfl ?_); refine zL 11 3 [3, 1, 2] (Below.refl _ _) (Nat.le_refl _) ?_; intro v394 w19 ho20 hb hg_ hnew_; clear hg_ hnew_; (first | rw [← Ny393.out] at ho20 | (simp only [Int.reduceToNat] at ho20; rw [← Ny393.out] at ho20)); have HO395 := zk (Kd.R_lower (Kd.R_new' (Kd.R_new' (Kd.R_new' (Kd.R_new' (Kd.R_new' (Kd.R_new' (Kd.R_new' ho20 (Kd.R_lt (zR HO374))) (Kd.R_lt (zR HO377))) (Kd.R_lt (zR HO380))) (Kd.R_lt (zR HO383))) (Kd.R_lt (zR HO386))) (Kd.R_lt (zR HO389))) (Kd.R_lt (zR HO392))) (keep_size (w := w) (g := g) (row := none) (zK HK))); replace HO374 := zE HO374 ho20 hb; replace HO377 := zE HO377 ho20 hb; replace HO380 := zE HO380 ho20 hb; replace HO383 := zE HO383 ho20 hb; replace HO386 := zE HO386 ho20 hb; replace HO389 := zE HO389 ho20 hb; replace HO392 := zE HO392 ho20 hb; replace HK := zk (KeepBut.trans (zK HK) (KeepBut.of_below hb g none) (.inl rfl)); replace HB := zk (below_step (zBs HB (IsS102.ge HI0.out)) hb); replace HI0 := zk (IsS102.below (by repeat (first | exact HI0.out | apply IsS102.alloc | apply IsS102.drewN | apply IsS102.drew | apply IsS102.set_1 | apply IsS102.set_2)) hb); clear hb ho20) | ((with_reducible refine gate_dst (N := 12) rfl ?_); refine zL 12 3 [2, 4, 1, 3] (Below.refl _ _) (Nat.le_refl _) ?_; intro v397 w21 ho22 hb hg_ hnew_; clear hg_ hnew_; (first | rw [← Ny396.out] at ho22 | (simp only [Int.reduceToNat] at ho22; rw [← Ny396.out] at ho22)); have HO398 := zk (Kd.R_lower (Kd.R_new' (Kd.R_new' (Kd.R_new' (Kd.R_new' (Kd.R_new' (Kd.R_new' (Kd.R_new' (Kd.R_new' ho22 (Kd.R_lt (zR HO374))) (Kd.R_lt (zR HO377))) (Kd.R_lt (zR HO380))) (Kd.R_lt (zR HO383))) (Kd.R_lt (zR HO386))) (Kd.R_lt (zR HO389))) (Kd.R_lt (zR HO392))) (Kd.R_lt (zR HO395))) (keep_size (w := w) (g := g) (row := none) (zK HK))); replace HO374 := zE HO374 ho22 hb; replace HO377 := zE HO377 ho22 hb; replace HO380 := zE HO380 ho22 hb; replace HO383 := zE HO383 ho22 hb; replace HO386 := zE HO386 ho22 hb; replace HO389 := zE HO389 ho22 hb; replace HO392 := zE HO392 ho22 hb; replace HO395 := zE HO395 ho22 hb; replace HK := zk (KeepBut.trans (zK HK) (KeepBut.of_below hb g none) (.inl rfl)); replace HB := zk (below_step (zBs HB (IsS102.ge HI0.out)) hb); replace HI0 := zk (IsS102.below (by repeat (first | exact HI0.out | apply IsS102.alloc | apply IsS102.drewN | apply IsS102.drew | apply IsS102.set_1 | apply IsS102.set_2)) hb); clear hb ho22) | ((with_reducible refine gate_dst (N := 13) rfl ?_); refine zL 13 3 [1, 3, 2, 4] (Below.refl _ _) (Nat.le_refl _) ?_; intro v400 w23 ho24 hb hg_ hnew_; clear hg_ hnew_; (first | rw [← Ny399.out] at ho24 | (simp only [Int.reduceToNat] at ho24; rw [← Ny399.out] at ho24)); have HO401 := zk (Kd.R_lower (Kd.R_new' (Kd.R_new' (Kd.R_new' (Kd.R_new' (Kd.R_new' (Kd.R_new' (Kd.R_new' (Kd.R_new' (Kd.R_new' ho24 (Kd.R_lt (zR HO374))) (Kd.R_lt (zR HO377))) (Kd.R_lt (zR HO380))) (Kd.R_lt (zR HO383))) (Kd.R_lt (zR HO386))) (Kd.R_lt (zR HO389))) (Kd.R_lt (zR HO392))) (Kd.R_lt (zR HO395))) (Kd.R_lt (zR HO398))) (keep_size (w := w) (g := g) (row := none) (zK HK))); replace HO374 := zE HO374 ho24 hb; replace HO377 := zE HO377 ho24 hb; replace HO380 := zE HO380 ho24 hb; replace HO383 := zE HO383 ho24 hb; replace HO386 := zE HO386 ho24 hb; replace HO389 := zE HO389 ho24 hb; replace HO392 := zE HO392 ho24 hb; replace HO395 := zE HO395 ho24 hb; replace HO398 := zE HO398 ho24 hb; replace HK := zk (KeepBut.trans (zK HK) (KeepBut.of_below hb g none) (.inl rfl)); replace HB := zk (below_step (zBs HB (IsS102.ge HI0.out)) hb); replace HI0 := zk (IsS102.below (by repeat (first | exact HI0.out | apply IsS102.alloc | apply IsS102.drewN | apply IsS102.drew | apply IsS102.set_1 | apply IsS102.set_2)) hb); clear hb ho24) | ((with_reducible refine gate_dst (N := 14) rfl ?_); refine zL 14 3 [1] (Below.refl _ _) (Nat.le_refl _) ?_; intro v403 w25 ho26 hb hg_ hnew_; clear hg_ hnew_; (first | rw [← Ny402.out] at ho26 | (simp only [Int.reduceToNat] at ho26; rw [← Ny402.out] at ho26)); have HO404 := zk (Kd.R_lower (Kd.R_new' (Kd.R_new' (Kd.R_new' (Kd.R_new' (Kd.R_new' (Kd.R_new' (Kd.R_new' (Kd.R_new' (Kd.R_new' (Kd.R_new' ho26 (Kd.R_lt (zR HO374))) (Kd.R_lt (zR HO377))) (Kd.R_lt (zR HO380))) (Kd.R_lt (zR HO383))) (Kd.R_lt (zR HO386))) (Kd.R_lt (zR HO389))) (Kd.R_lt (zR HO392))) (Kd.R_lt (zR HO395))) (Kd.R_lt (zR HO398))) (Kd.R_lt (zR HO401))) (keep_size (w := w) (g := g) (row := none) (zK HK))); replace HO374 := zE HO374 ho26 hb; replace HO377 := zE HO377 ho26 hb; replace HO380 := zE HO380 ho26 hb; replace HO383 := zE HO383 ho26 hb; replace HO386 := zE HO386 ho26 hb; replace HO389 := zE HO389 ho26 hb; replace HO392 := zE HO392 ho26 hb; replace HO395 := zE HO395 ho26 hb; replace HO398 := zE HO398 ho26 hb; replace HO401 := zE HO401 ho26 hb; replace HK := zk (KeepBut.trans (zK HK) (KeepBut.of_below hb g none) (.inl rfl)); replace HB := zk (below_step (zBs HB (IsS102.ge HI0.out)) hb); replace HI0 := zk (IsS102.below (by repeat (first | exact HI0.out | apply IsS102.alloc | apply IsS102.drewN | apply IsS102.drew | apply IsS102.set_1 | apply IsS102.set_2)) hb); clear hb ho26; obtain ⟨Ao27, co27, eo27⟩ := Kd.R_slice HO374.out; subst eo27; obtain ⟨Ao28, co28, eo28⟩ := Kd.R_slice HO377.out; subst eo28; obtain ⟨Ao29, co29, eo29⟩ := Kd.R_slice HO380.out; subst eo29; obtain ⟨Ao30, co30, eo30⟩ := Kd.R_slice HO383.out; subst eo30; obtain ⟨Ao31, co31, eo31⟩ := Kd.R_slice HO386.out; subst eo31; obtain ⟨Ao32, co32, eo32⟩ := Kd.R_slice HO389.out; subst eo32; obtain ⟨Ao33, co33, eo33⟩ := Kd.R_slice HO392.out; subst eo33; obtain ⟨Ao34, co34, eo34⟩ := Kd.R_slice HO395.out; subst eo34; obtain ⟨Ao35, co35, eo35⟩ := Kd.R_slice HO398.out; subst eo35; obtain ⟨Ao36, co36, eo36⟩ := Kd.R_slice HO401.out; subst eo36; obtain ⟨Ao37, co37, eo37⟩ := Kd.R_slice HO404.out; subst eo37) | ((with_reducible refine gate_dst (N := 15) rfl ?_); refine Kd.N_lit (Kd.slice 3 (Kd.int .i64)) _ 22 ?hg (N' := 15) ?hd (xs := ([y372, y375, y378, y381, y384, y387, y390, y393, y396, y399, y402] : List (List Int))) (inner := [.slice Ao27 y372.length co27, .slice Ao28 y375.length co28, .slice Ao29 y378.length co29, .slice Ao30 y381.length co30, .slice Ao31 y384.length co31, .slice Ao32 y387.length co32, .slice Ao33 y390.length co33, .slice Ao34 y393.length co34, .slice Ao35 y396.length co35, .slice Ao36 y399.length co36, .slice Ao37 y402.length co37]) (ok := (fun k_ => k_ ≠ g)) (okp := (fun k_ => k_ ≠ g)) ?hr ?hp (fun _ hk => hk) ((show ∀ k_, w25.heap.size ≤ k_ → (fun k_ => k_ ≠ g) k_ from fun k_ hk => IsS102.fresh (by repeat (first | exact HI0.out | apply IsS102.alloc | apply IsS102.drewN | apply IsS102.drew | apply IsS102.set_1 | apply IsS102.set_2)) k_ hk) _ (Nat.le_refl _)) (Below.refl _ _) (Nat.le_refl _) (by simp) ?_; (case hd => rfl); (case hg => rfl); (case hr => first | (go_simp; done) | (go_simp; rfl)); (case hp => exact (Reps.one (show Kd.FK (Kd.slice 3 (Kd.int .i64)) _ _ y372 [.slice Ao27 y372.length co27] from (Kd.FK_slice_mk (Kd.R_reads' (Kd.R_mono (ok' := (fun k_ => k_ ≠ g)) (IsS102.apart HI0.out (HO374.out) (by decide)) (fun k_ hk => hk.2))).2.1 (Kd.R_F (Kd.R_mono (ok' := (fun k_ => k_ ≠ g)) (IsS102.apart HI0.out (HO374.out) (by decide)) (fun k_ hk => hk.2))))) (Reps.one (show Kd.FK (Kd.slice 3 (Kd.int .i64)) _ _ y375 [.slice Ao28 y375.length co28] from (Kd.FK_slice_mk (Kd.R_reads' (Kd.R_mono (ok' := (fun k_ => k_ ≠ g)) (IsS102.apart HI0.out (HO377.out) (by decide)) (fun k_ hk => hk.2))).2.1 (Kd.R_F (Kd.R_mono (ok' := (fun k_ => k_ ≠ g)) (IsS102.apart HI0.out (HO377.out) (by decide)) (fun k_ hk => hk.2))))) (Reps.one (show Kd.FK (Kd.slice 3 (Kd.int .i64)) _ _ y378 [.slice Ao29 y378.length co29] from (Kd.FK_slice_mk (Kd.R_reads' (Kd.R_mono (ok' := (fun k_ => k_ ≠ g)) (IsS102.apart HI0.out (HO380.out) (by decide)) (fun k_ hk => hk.2))).2.1 (Kd.R_F (Kd.R_mono (ok' := (fun k_ => k_ ≠ g)) (IsS102.apart HI0.out (HO380.out) (by decide)) (fun k_ hk => hk.2))))) (Reps.one (show Kd.FK (Kd.slice 3 (Kd.int .i64)) _ _ y381 [.slice Ao30 y381.length co30] from (Kd.FK_slice_mk (Kd.R_reads' (Kd.R_mono (ok' := (fun k_ => k_ ≠ g)) (IsS102.apart HI0.out (HO383.out) (by decide)) (fun k_ hk => hk.2))).2.1 (Kd.R_F (Kd.R_mono (ok' := (fun k_ => k_ ≠ g)) (IsS102.apart HI0.out (HO383.out) (by decide)) (fun k_ hk => hk.2))))) (Reps.one (show Kd.FK (Kd.slice 3 (Kd.int .i64)) _ _ y384 [.slice Ao31 y384.length co31] from (Kd.FK_slice_mk (Kd.R_reads' (Kd.R_mono (ok' := (fun k_ => k_ ≠ g)) (IsS102.apart HI0.out (HO386.out) (by decide)) (fun k_ hk => hk.2))).2.1 (Kd.R_F (Kd.R_mono (ok' := (fun k_ => k_ ≠ g)) (IsS102.apart HI0.out (HO386.out) (by decide)) (fun k_ hk => hk.2))))) (Reps.one (show Kd.FK (Kd.slice 3 (Kd.int .i64)) _ _ y387 [.slice Ao32 y387.length co32] from (Kd.FK_slice_mk (Kd.R_reads' (Kd.R_mono (ok' := (fun k_ => k_ ≠ g)) (IsS102.apart HI0.out (HO389.out) (by decide)) (fun k_ hk => hk.2))).2.1 (Kd.R_F (Kd.R_mono (ok' := (fun k_ => k_ ≠ g)) (IsS102.apart HI0.out (HO389.out) (by decide)) (fun k_ hk => hk.2))))) (Reps.one (show Kd.FK (Kd.slice 3 (Kd.int .i64)) _ _ y390 [.slice Ao33 y390.length co33] from (Kd.FK_slice_mk (Kd.R_reads' (Kd.R_mono (ok' := (fun k_ => k_ ≠ g)) (IsS102.apart HI0.out (HO392.out) (by decide)) (fun k_ hk => hk.2))).2.1 (Kd.R_F (Kd.R_mono (ok' := (fun k_ => k_ ≠ g)) (IsS102.apart HI0.out (HO392.out) (by decide)) (fun k_ hk => hk.2))))) (Reps.one (show Kd.FK (Kd.slice 3 (Kd.int .i64)) _ _ y393 [.slice Ao34 y393.length co34] from (Kd.FK_slice_mk (Kd.R_reads' (Kd.R_mono (ok' := (fun k_ => k_ ≠ g)) (IsS102.apart HI0.out (HO395.out) (by decide)) (fun k_ hk => hk.2))).2.1 (Kd.R_F (Kd.R_mono (ok' := (fun k_ => k_ ≠ g)) (IsS102.apart HI0.out (HO395.out) (by decide)) (fun k_ hk => hk.2))))) (Reps.one (show Kd.FK (Kd.slice 3 (Kd.int .i64)) _ _ y396 [.slice Ao35 y396.length co35] from (Kd.FK_slice_mk (Kd.R_reads' (Kd.R_mono (ok' := (fun k_ => k_ ≠ g)) (IsS102.apart HI0.out (HO398.out) (by decide)) (fun k_ hk => hk.2))).2.1 (Kd.R_F (Kd.R_mono (ok' := (fun k_ => k_ ≠ g)) (IsS102.apart HI0.out (HO398.out) (by decide)) (fun k_ hk => hk.2))))) (Reps.one (show Kd.FK (Kd.slice 3 (Kd.int .i64)) _ _ y399 [.slice Ao36 y399.length co36] from (Kd.FK_slice_mk (Kd.R_reads' (Kd.R_mono (ok' := (fun k_ => k_ ≠ g)) (IsS102.apart HI0.out (HO401.out) (by decide)) (fun k_ hk => hk.2))).2.1 (Kd.R_F (Kd.R_mono (ok' := (fun k_ => k_ ≠ g)) (IsS102.apart HI0.out (HO401.out) (by decide)) (fun k_ hk => hk.2))))) (Reps.one (show Kd.FK (Kd.slice 3 (Kd.int .i64)) _ _ y402 [.slice Ao37 y402.length co37] from (Kd.FK_slice_mk (Kd.R_reads' (Kd.R_mono (ok' := (fun k_ => k_ ≠ g)) (IsS102.apart HI0.out (HO404.out) (by decide)) (fun k_ hk => hk.2))).2.1 (Kd.R_F (Kd.R_mono (ok' := (fun k_ => k_ ≠ g)) (IsS102.apart HI0.out (HO404.out) (by decide)) (fun k_ hk => hk.2))))) (Reps.none _ _))))))))))))); intro v406 w38 ho39 hb hg_ hnew_; clear hg_ hnew_; (first | rw [← Ny405.out] at ho39 | (simp only [Int.reduceToNat] at ho39; rw [← Ny405.out] at ho39)); have HO407 := zk (Kd.N_lower ho39 (keep_size (w := w) (g := g) (row := none) (zK HK))); replace HK := zk (KeepBut.trans (zK HK) (KeepBut.of_below hb g none) (.inl rfl)); replace HB := zk (below_step (zBs HB (IsS102.ge HI0.out)) hb); replace HI0 := zk (IsS102.below (by repeat (first | exact HI0.out | apply IsS102.alloc | apply IsS102.drewN | apply IsS102.drew | apply IsS102.set_1 | apply IsS102.set_2)) hb); clear HO374 HO377 HO380 HO383 HO386 HO389 HO392 HO395 HO398 HO401 HO404; clear hb ho39) | ((with_reducible refine gate_callee (f := 164) rfl ?_); refine zG (some 17) Try.func164 #[.pointer (some ⟨g, 0, none⟩), .int .i64 5] ?_; (with_reducible refine (spec_l1Cur_one.calls g s0_0 s0_1 s0_2 5 true t409 t410 w0 _ ?side1 ?side2 A2.out).mono ?_); (case side1 => repeat (first | exact HI0.out | apply IsS102.alloc | apply IsS102.drewN | apply IsS102.drew | apply IsS102.set_1 | apply IsS102.set_2)); (case side2 => exact zBs HB (IsS102.ge HI0.out)); rintro e w40 ⟨rfl, hi, hb, hk⟩; refine ⟨_, rfl, ?_⟩; replace HO407 := zk (Kd.N_mono (Kd.N_keep (Kd.N_mono (ok := fun k_ => k_ ≠ g) (zN HO407) (fun k_ hk_ => (⟨hk_, hk_⟩ : _ ∧ k_ ≠ g))) hk (fun _ h => h.2)) (fun _ h => h.1)); replace HK := zk (KeepBut.trans (zK HK) hk (.inl rfl)); replace HB := zk (hb); replace HI0 := zk (hi); (try clear hb); (try clear hb2); (try clear hk); (try clear hi)) | ((with_reducible refine gate_callee (f := 166) rfl ?_); refine zG (some 19) Try.func166 #[.pointer (some ⟨g, 0, none⟩)] ?_; (with_reducible refine (spec_l1Cur_order.calls k g s0_0 t409 t410 t411 t414 t415 w0 _ ?side1 ?side2 A4.out).mono ?_); (case side1 => repeat (first | exact HI0.out | apply IsS102.alloc | apply IsS102.drewN | apply IsS102.drew | apply IsS102.set_1 | apply IsS102.set_2)); (case side2 => exact zBs HB (IsS102.ge HI0.out)); rintro e w41 ⟨v412, rfl, ho0, hi, hb, hk⟩; refine ⟨_, rfl, ?_⟩; have HO413 := zk (Kd.R_lower ho0 (keep_size (w := w) (g := g) (row := none) (zK HK))); replace HO407 := zk (Kd.N_mono (Kd.N_told (Kd.N_oldK (Kd.N_mono (ok := fun k_ => k_ ≠ g) (zN HO407) (fun k_ hk_ => (⟨hk_, hk_⟩ : _ ∧ k_ ≠ g))) hk) (Kd.R_base ho0)) (fun _ h_ => h_.1)); replace HK := zk (KeepBut.trans (zK HK) hk (.inl rfl)); replace HB := zk (hb); replace HI0 := zk (hi); (try clear hb hk hi ho0)))
 go_ret
 exact ⟨_, by first | rfl | (simp [errW_none, errW_some] <;> rfl) | (simp [*, errW_none, errW_some] <;> rfl), by (with_reducible repeat (first | apply zs | apply zr | apply zt)); exact HO413.out, by repeat (first | exact HI0.out | apply IsS102.alloc | apply IsS102.drewN | apply IsS102.drew | apply IsS102.set_1 | apply IsS102.set_2), by repeat (first | (with_reducible first | exact HB.out | apply za | apply zd | apply ze | refine below_set ?_ (IsS102.ge HI0.out)) | exact HB.out), by repeat (first | exact HK.out | apply KeepBut.set_ | apply keep_drewN | apply keep_drew | apply keep_alloc)⟩

/-! ### spec_DrawContainsPattern: function 237 -/
def spec_DrawContainsPattern.f (k : Nat) (l0 : List Int) : Option (List Int × List Int) := (spec_l1Cur_order.f k l0 0 0).bind fun bt424 => ((spec_l1Cur_pattern3.f k l0 bt424.2.1 bt424.2.2).bind fun bt429 => (some (bt424.1, bt429.1)))
set_option maxHeartbeats 8000000 in
set_option maxRecDepth 100000 in
theorem spec_DrawContainsPattern.calls (k : Nat) (A0 : Option Addr) (c0 : Nat) (l0 : List Int) (r1 : List Int) (r2 : List Int) (w : World) (hr0 : Kd.C (Kd.int .u8) w A0 l0.length l0) (hc0 : l0.length ≤ c0) (h : spec_DrawContainsPattern.f k l0 = some (r1, r2)) :
 Calls Try.prog 237 #[.slice A0 l0.length c0] w fun e w' => ∃ v0_ v1_ : Value, e = .returned (.tuple #[v0_, v1_]) ∧ Kd.R (Kd.int .i64) 3 w' w.heap.size (fun k_ => some k_ ≠ (v1_ : Value).ownBlock) v0_ r1 ∧ Kd.R (Kd.int .i64) 3 w' w.heap.size (fun k_ => some k_ ≠ (v0_ : Value).ownBlock) v1_ r2 ∧ Below w.heap.size w w' := by
 have hu102 := Try.underlying102
 have HR0 := zk hr0
 have HC0 := zk hc0
 clear hr0 hc0
 have HB := zk (Below.refl w.heap.size w)
 have H := h
 unfold spec_DrawContainsPattern.f at H
 clear h
 replace H := Option.bind_eq_some_iff.mp H
 obtain ⟨⟨t424, t427, t428⟩, A20, H⟩ := H
 try dsimp only at H
 have A2 := zk A20
 clear A20
 replace H := Option.bind_eq_some_iff.mp H
 obtain ⟨⟨t429, t432, t433⟩, A30, H⟩ := H
 try dsimp only at H
 have A3 := zk A30
 clear A30
 simp only [Option.some.injEq, Prod.mk.injEq] at H
 obtain ⟨rfl, rfl⟩ := H
 go_enter Try.func237, Try.ntmps237
 go_wp2_with (first | ((with_reducible refine gate_dst (N := 7) rfl ?_); refine box_event ?hg (N := 7) ?hd (cs := #[.slice A0 l0.length c0, .int .i64 0, .int .u64 0]) (t := 102) ?hr ?_; (case hd => rfl); (case hg => rfl); (case hr => first | (go_simp; done) | (go_simp; rfl)); intro gb423 hg w4 hbox hb; have HI423 := zk ((⟨_, _, hbox, (by rw [hg]; exact (below_size (zB HB)) : w.heap.size ≤ gb423), HR0.out⟩ : IsS102 w _ gb423 l0 0 0)); have GW423 := zk ((by rw [hg]; exact (below_size (zB HB)) : w.heap.size ≤ gb423)); have GE423 := zk ((by rw [hg]; exact (below_size (zB HB)) : w.heap.size ≤ gb423)); replace HB := zF HB hb; clear hb hbox hg) | ((with_reducible refine gate_callee (f := 166) rfl ?_); refine zG (some 9) Try.func166 #[.pointer (some ⟨gb423, 0, none⟩)] ?_; (with_reducible refine (spec_l1Cur_order.calls k gb423 l0 0 0 t424 t427 t428 w _ ?side1 ?side2 A2.out).mono ?_); (case side1 => repeat (first | exact HI423.out | apply IsS102.alloc | apply IsS102.drewN | apply IsS102.drew | apply IsS102.set_1 | apply IsS102.set_2)); (case side2 => exact zBs HB (IsS102.ge HI423.out)); rintro e w5 ⟨v425, rfl, ho0, hi, hb, hk⟩; refine ⟨_, rfl, ?_⟩; have HO426 := zk (Kd.R_lower ho0 (below_size (zBs HB (IsS102.ge HI423.out)))); replace HB := zk (hb); replace HI423 := zk (hi); (try clear hb hk hi ho0)) | ((with_reducible refine gate_callee (f := 233) rfl ?_); refine zG (some 11) Try.func233 #[.pointer (some ⟨gb423, 0, none⟩)] ?_; (with_reducible refine (spec_l1Cur_pattern3.calls k gb423 l0 t427 t428 t429 t432 t433 w _ ?side1 ?side2 A3.out).mono ?_); (case side1 => repeat (first | exact HI423.out | apply IsS102.alloc | apply IsS102.drewN | apply IsS102.drew | apply IsS102.set_1 | apply IsS102.set_2)); (case side2 => exact zBs HB (IsS102.ge HI423.out)); rintro e w6 ⟨v430, rfl, ho0, hi, hb, hk⟩; refine ⟨_, rfl, ?_⟩; have HO431 := zk (Kd.R_lower (Kd.R_new' ho0 (Kd.R_lt (zR HO426))) (below_size (zBs HB (IsS102.ge HI423.out)))); replace HO426 := zk (Kd.R_mono (Kd.R_told (Kd.R_oldK (IsS102.apart (show IsS102 w _ gb423 l0 t427 t428 from by repeat (first | exact HI423.out | apply IsS102.alloc | apply IsS102.drewN | apply IsS102.drew | apply IsS102.set_1 | apply IsS102.set_2)) (zR HO426) (by decide)) hk) (Kd.R_base ho0)) (fun _ h_ => h_.1)); replace HB := zk (hb); replace HI423 := zk (hi); (try clear hb hk hi ho0)))
 go_ret2
 exact ⟨_, _, by first | rfl | (simp [errW_none, errW_some] <;> rfl) | (simp [*, errW_none, errW_some] <;> rfl), by (with_reducible repeat (first | apply zs | apply zr | apply zt)); exact Kd.R_mono HO426.out (fun _ hk => hk.2), by (with_reducible repeat (first | apply zs | apply zr | apply zt)); exact Kd.R_mono HO431.out (fun _ hk => hk.2), by repeat (first | (with_reducible first | exact HB.out | apply za | apply zd | apply ze | refine below_set ?_ (IsS102.ge HI423.out)) | exact HB.out)⟩

/-! ### spec_DrawFirstPlaces: function 128 -/
def spec_DrawFirstPlaces.f (k : Nat) (l0 : List Int) : Option (List Int × List Int) := (spec_DrawContainsPattern.f k l0).bind fun bt434 => (some (bt434.1, bt434.2))
set_option maxHeartbeats 8000000 in
set_option maxRecDepth 100000 in
theorem spec_DrawFirstPlaces.calls (k : Nat) (A0 : Option Addr) (c0 : Nat) (l0 : List Int) (r1 : List Int) (r2 : List Int) (w : World) (hr0 : Kd.C (Kd.int .u8) w A0 l0.length l0) (hc0 : l0.length ≤ c0) (h : spec_DrawFirstPlaces.f k l0 = some (r1, r2)) :
 Calls Try.prog 128 #[.slice A0 l0.length c0] w fun e w' => ∃ v0_ v1_ : Value, e = .returned (.tuple #[v0_, v1_]) ∧ Kd.R (Kd.int .i64) 3 w' w.heap.size (fun k_ => some k_ ≠ (v1_ : Value).ownBlock) v0_ r1 ∧ Kd.R (Kd.int .i64) 3 w' w.heap.size (fun k_ => some k_ ≠ (v0_ : Value).ownBlock) v1_ r2 ∧ Below w.heap.size w w' := by
 have HR0 := zk hr0
 have HC0 := zk hc0
 clear hr0 hc0
 have HB := zk (Below.refl w.heap.size w)
 have H := h
 unfold spec_DrawFirstPlaces.f at H
 clear h
 replace H := Option.bind_eq_some_iff.mp H
 obtain ⟨⟨t434, t435⟩, A20, H⟩ := H
 try dsimp only at H
 have A2 := zk A20
 clear A20
 simp only [Option.some.injEq, Prod.mk.injEq] at H
 obtain ⟨rfl, rfl⟩ := H
 go_enter Try.func128, Try.ntmps128
 go_wp2_with (first | ((with_reducible refine gate_callee (f := 237) rfl ?_); refine zG (some 5) Try.func237 #[.slice A0 l0.length c0] ?_; (with_reducible refine (spec_DrawContainsPattern.calls k _ _ l0 t434 t435 _ ?side1 ?side2 A2.out).mono ?_); (case side1 => exact zC HR0.out); (case side2 => exact HC0.out); rintro e w3 ⟨v436, v438, rfl, ho0, ho1, hb⟩; refine ⟨_, rfl, ?_⟩; have HO437 := zk (Kd.R_lower ho0 (below_size (zB HB))); have HO439 := zk (Kd.R_lower ho1 (below_size (zB HB))); replace HB := zF HB hb; (try clear hb ho0); (try clear ho1)))
 go_ret2
 exact ⟨_, _, by first | rfl | (simp [errW_none, errW_some] <;> rfl) | (simp [*, errW_none, errW_some] <;> rfl), by (with_reducible repeat (first | apply zs | apply zr | apply zt)); exact HO437.out, by (with_reducible repeat (first | apply zs | apply zr | apply zt)); exact HO439.out, by repeat (first | exact HB.out | apply za | apply zd | apply ze)⟩

end Go.Proofs.Ytlkddcabjcejdaa.MFnContained
