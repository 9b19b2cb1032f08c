/- Functions that FnAvoiding comes to, a walk for each: by wip/tools/mk.py and post.py. No condition. -/
import Derived.Test.YtlkddcabjcejdaaMFnAvoidingx0
import Derived.Test.YtlkddcabjcejdaaMFnAvoidingx1
namespace Go.Proofs.Ytlkddcabjcejdaa.MFnAvoiding
open Go.RowKit Go.Proofs.YtlkddcabjcejdaaW.PrintWords Go.Proofs.YtlkddcabjcejdaaW.PrintLast Go.Proofs.YtlkddcabjcejdaaW.PrintMore
attribute [local go_sem] max2_int min2_int max_two min_two max_three min_three max_four min_four
set_option linter.unusedVariables false
set_option linter.unusedSimpArgs false

/-! ### spec_l1Cur_order: function 166 -/
def spec_l1Cur_order.l0 : Nat → List Int → Int → List Int → Int → Int → Option (List Int × Int × Int)
 | 0, _, _, _, _, _ => none
 | k + 1, x3, x4, x1000, x1001, x1002 => if x4 > 0 then ((spec_l1Cur_pick.f x1000 x1001 x1002 (wrap64 ((x3.length : Int) + 1))).bind fun bt152 => (if 0 ≤ bt152.1 then (if bt152.1 ≤ (x3.length : Int) then ((spec_l1Own.f (x3.take (bt152.1 : Int).toNat)).bind fun t159 => ((some (([wrap64 ((x3.length : Int) + 1)] : List Int) : List Int)).bind fun y162 => (if t159.length + y162.length < 17592186044416 then ((some (t159 ++ y162 : List Int)).bind fun y165 => ((some (x3.drop (bt152.1 : Int).toNat : List Int)).bind fun y168 => (if y165.length + y168.length < 17592186044416 then (spec_l1Cur_order.l0 k (y165 ++ y168) (wrap64 (x4 - 1)) x1000 bt152.2.1 bt152.2.2) else (none)))) else (none)))) else (none)) else (none))) else ((spec_l1Cur_pick.f x1000 x1001 x1002 40).bind fun bt175 => (if bt175.1 = 0 then (some ((([] : List Int)), bt175.2.1, bt175.2.2)) else (if bt175.1 = 1 then ((spec_l1Cur_pick.f x1000 bt175.2.1 bt175.2.2 (x3.length : Int)).bind fun bt181 => ((spec_l1Cur_among.f x1000 bt181.2.1 bt181.2.2 (([0, 1, 8, (-1)] : List Int))).bind fun bt187 => (if 0 ≤ bt181.1 then (if bt181.1 < (x3.length : Int) then (some ((x3.set (bt181.1 : Int).toNat bt187.1), bt187.2.1, bt187.2.2)) else (none)) else (none)))) else (if bt175.1 = 2 then (some ((([1, 2, 3, 4, 5, 6, 7, 8] : List Int)), bt175.2.1, bt175.2.2)) else (some (x3, bt175.2.1, bt175.2.2))))))
def spec_l1Cur_order.f (k : Nat) (s0_0 : List Int) (s0_1 : Int) (s0_2 : Int) : Option (List Int × Int × Int) := (spec_l1Cur_among.f s0_0 s0_1 s0_2 (([4, 5, 3, 6, 2, 7, 1, 4] : List Int))).bind fun bt149 => (spec_l1Cur_order.l0 k (([] : List Int)) bt149.1 s0_0 bt149.2.1 bt149.2.2)
def spec_l1Cur_order.T6 : Bool × List (List Nat × List Nat) := (true, [([], []), ([], []), ([0, 1], [0, 1]), ([2], [2]), ([], []), ([4], [4]), ([5], [5]), ([6], [6]), ([3, 7, 3], [3, 7]), ([], []), ([], []), ([9, 10], [9, 10]), ([8, 11, 8], [8, 11]), ([12, 12, 0, 1, 2, 3, 4, 5, 6, 7, 8, 9, 10, 11, 12], [0, 4, 9, 12])])
def spec_l1Cur_order.B6 : List Nat := [0, 0, 3, 7, 0, 16, 48, 112, 255, 0, 0, 1536, 4095, 8191]
theorem spec_l1Cur_order.tab6 : rtab .any (opsOf Try.f166 6) = spec_l1Cur_order.T6 := by kernel_rfl
theorem spec_l1Cur_order.bits6 : waitsOk spec_l1Cur_order.T6.2 spec_l1Cur_order.B6 = true := by kernel_rfl
set_option maxHeartbeats 8000000 in
set_option maxRecDepth 100000 in
theorem spec_l1Cur_order.calls (k : Nat) (g : Nat) (s0_0 : List Int) (s0_1 : Int) (s0_2 : Int) (r1 : List Int) (r2 : Int) (r3 : Int) (w0 w : World) (hI : IsS102 w0 w g s0_0 s0_1 s0_2) (hB : Below w0.heap.size w0 w) (h : spec_l1Cur_order.f k s0_0 s0_1 s0_2 = some (r1, r2, r3)) :
 Calls Try.prog 166 #[.pointer (some ⟨g, 0, none⟩)] w fun e w' => ∃ v0_ : Value, e = .returned (v0_) ∧ Kd.R (Kd.int .i64) 3 w' w.heap.size (fun _ => True) v0_ r1 ∧ IsS102 w0 w' g s0_0 r2 r3 ∧ Below w0.heap.size w0 w' ∧ KeepBut w w' g none := by
 have HI0 := zk hI
 have HK := zk (KeepBut.refl w g none)
 have HL := zk hB.size
 clear hI
 have HW0 := zk hB.size
 have HB := zk hB
 clear hB
 have H := h
 unfold spec_l1Cur_order.f at H
 clear h
 obtain ⟨y143, hy143⟩ : ∃ y_ : List Int, y_ = (([] : List Int)) := ⟨_, rfl⟩
 replace H : ((spec_l1Cur_among.f s0_0 s0_1 s0_2 (([4, 5, 3, 6, 2, 7, 1, 4] : List Int))).bind fun bt149 => (spec_l1Cur_order.l0 k y143 bt149.1 s0_0 bt149.2.1 bt149.2.2)) = some (r1, r2, r3) := by first | (rw [hy143]; with_reducible exact H) | (have H2_ := (Option.bind_some _ _).symm.trans H; rw [hy143]; with_reducible exact H2_) | (have H2_ := (Option.bind_some _ _).symm.trans H; with_reducible exact H2_) | with_reducible exact H | (rw [hy143]; exact H) | exact H
 have Ny143 := zk hy143
 clear hy143
 obtain ⟨y146, hy146⟩ : ∃ y_ : List Int, y_ = (([4, 5, 3, 6, 2, 7, 1, 4] : List Int)) := ⟨_, rfl⟩
 rw [← hy146] at H
 try rw [zO y146] at H
 try dsimp only at H
 have Ny146 := zk hy146
 clear hy146
 replace H := Option.bind_eq_some_iff.mp H
 obtain ⟨⟨t149, t150, t151⟩, A20, H⟩ := H
 try dsimp only at H
 have A2 := zk A20
 clear A20
 have H' := zk H
 clear H
 go_enter Try.func166, Try.ntmps166
 go_wp2_with (first | ((with_reducible refine gate_dst (N := 6) rfl ?_); refine zL 6 3 [] (Below.refl _ _) (Nat.le_refl _) ?_; intro v144 w3 ho4 hb hg_ hnew_; clear hg_ hnew_; (first | rw [← Ny143.out] at ho4 | (simp only [Int.reduceToNat] at ho4; rw [← Ny143.out] at ho4)); have HO145 := zk (Kd.R_lower ho4 (keep_size (w := w) (g := g) (row := none) (zK HK))); replace HK := zk (KeepBut.trans (zK HK) (KeepBut.of_below hb g none) (.inl rfl)); replace HB := zk (below_step (zBs HB (IsS102.ge HI0.out)) hb); replace HI0 := zk (IsS102.below (by repeat (first | exact HI0.out | apply IsS102.alloc | apply IsS102.drewN | apply IsS102.drew | apply IsS102.set_1 | apply IsS102.set_2)) hb); clear hb ho4) | ((with_reducible refine gate_dst (N := 8) rfl ?_); refine zL 8 3 [4, 5, 3, 6, 2, 7, 1, 4] (Below.refl _ _) (Nat.le_refl _) ?_; intro v147 w5 ho6 hb hg_ hnew_; clear hg_ hnew_; (first | rw [← Ny146.out] at ho6 | (simp only [Int.reduceToNat] at ho6; rw [← Ny146.out] at ho6)); have HO148 := zk (Kd.R_lower (Kd.R_new' ho6 (Kd.R_lt (zR HO145))) (keep_size (w := w) (g := g) (row := none) (zK HK))); replace HO145 := zE HO145 ho6 hb; replace HK := zk (KeepBut.trans (zK HK) (KeepBut.of_below hb g none) (.inl rfl)); replace HB := zk (below_step (zBs HB (IsS102.ge HI0.out)) hb); replace HI0 := zk (IsS102.below (by repeat (first | exact HI0.out | apply IsS102.alloc | apply IsS102.drewN | apply IsS102.drew | apply IsS102.set_1 | apply IsS102.set_2)) hb); clear hb ho6; obtain ⟨Ao7, co7, eo7⟩ := Kd.R_slice HO148.out; subst eo7) | ((with_reducible refine gate_callee (f := 195) rfl ?_); refine zG (some 9) Try.func195 #[.pointer (some ⟨g, 0, none⟩), .slice Ao7 y146.length co7] ?_; (with_reducible refine (spec_l1Cur_among.calls g s0_0 s0_1 s0_2 _ _ y146 t149 t150 t151 w0 _ ?side1 ?side2 ?side3 ?side4 ?side5 A2.out).mono ?_); (case side1 => repeat (first | exact HI0.out | apply IsS102.alloc | apply IsS102.drewN | apply IsS102.drew | apply IsS102.set_1 | apply IsS102.set_2)); (case side2 => exact zBs HB (IsS102.ge HI0.out)); (case side3 => exact zC (Kd.R_reads' HO148.out).2.2); (case side4 => exact (Kd.R_reads' HO148.out).2.1); (case side5 => exact far_slice (IsS102.own_ne HI0.out HO148.out (by decide))); rintro e w8 ⟨rfl, hi, hb, hk⟩; refine ⟨_, rfl, ?_⟩; replace HO145 := zk (Kd.R_mono (Kd.R_keep (IsS102.apart (show IsS102 w0 _ g s0_0 s0_1 s0_2 from by repeat (first | exact HI0.out | apply IsS102.alloc | apply IsS102.drewN | apply IsS102.drew | apply IsS102.set_1 | apply IsS102.set_2)) (zR HO145) (by decide)) hk (fun _ h => h.2)) (fun _ h => h.1)); replace HO148 := zk (Kd.R_mono (Kd.R_keep (IsS102.apart (show IsS102 w0 _ g s0_0 s0_1 s0_2 from by repeat (first | exact HI0.out | apply IsS102.alloc | apply IsS102.drewN | apply IsS102.drew | apply IsS102.set_1 | apply IsS102.set_2)) (zR HO148) (by decide)) hk (fun _ h => h.2)) (fun _ h => h.1)); replace HK := zk (KeepBut.trans (zK HK) hk (.inl rfl)); replace HB := zk (hb); replace HI0 := zk (hi); (try clear hb); (try clear hb2); (try clear hk); (try clear hi)))
 go_loopg [3, 4] k (fun kq v3 v4 w' => ∃ (x3_1 : List Int) (x4_1 : Int) (x1001_1 : Int) (x1002_1 : Int), v4 = .int .i64 x4_1 ∧ Aside0 (spec_l1Cur_order.l0 kq x3_1 x4_1 s0_0 x1001_1 x1002_1 = some (r1, r2, r3)) ∧ Aside0 (kq ≤ k) ∧ Aside0 (Kd.R (Kd.int .i64) 3 w' w.heap.size (fun _ => True) v3 x3_1) ∧ Aside0 (IsS102 w0 w' g s0_0 x1001_1 x1002_1) ∧ Aside0 (KeepBut w w' g none) ∧ Aside0 (Below w0.heap.size w0 w'))
 case atStart => exact ⟨(y143), (t149), (t150), (t151), (by first | rfl | (simp; done) | (simp [*]; done)), H', ⟨Nat.le_refl _⟩, ⟨by (with_reducible repeat (first | apply zs | apply zr | apply zt)); exact Kd.R_mono HO145.out (fun _ hk => trivial)⟩, ⟨by repeat (first | exact HI0.out | apply IsS102.alloc | apply IsS102.drewN | apply IsS102.drew | apply IsS102.set_1 | apply IsS102.set_2)⟩, ⟨by repeat (first | exact HK.out | apply KeepBut.set_ | apply keep_drewN | apply keep_drew | apply keep_alloc)⟩, ⟨by repeat (first | (with_reducible first | exact HB.out | apply za | apply zd | apply ze | refine below_set ?_ (IsS102.ge HI0.out)) | exact HB.out)⟩⟩
 case round =>
  clear H'
  try clear c1
  try clear p2
  obtain ⟨x3_1, x4_1, x1001_1, x1002_1, rfl, HA, HK1, HO_3, HI0, HK, HB⟩ := hrel
  cases gk with
  | zero => exact absurd HA.out (by simp [spec_l1Cur_order.l0])
  | succ k1 =>
   have H := HA.out
   clear HA
   simp only [spec_l1Cur_order.l0] at H
   by_cases c9 : x4_1 > 0
   rotate_left
   · rw [if_neg c9] at H
     have c9b0 := decide_eq_false c9
     clear c9
     replace H := Option.bind_eq_some_iff.mp H
     obtain ⟨⟨t175, t176, t177⟩, A300, H⟩ := H
     try dsimp only at H
     have A30 := zk A300
     clear A300
     by_cases c31 : t175 = 0
     rotate_left
     · rw [if_neg c31] at H
       have c31b0 : (t175 == 0) = false := beq_eq_false_iff_ne.mpr c31
       have c31b1 : (t175 != 0) = true := bne_iff_ne.mpr c31
       by_cases c35 : t175 = 1
       rotate_left
       · rw [if_neg c35] at H
         have c35b0 : (t175 == 1) = false := beq_eq_false_iff_ne.mpr c35
         have c35b1 : (t175 != 1) = true := bne_iff_ne.mpr c35
         by_cases c50 : t175 = 2
         rotate_left
         · rw [if_neg c50] at H
           have c50b0 : (t175 == 2) = false := beq_eq_false_iff_ne.mpr c50
           have c50b1 : (t175 != 2) = true := bne_iff_ne.mpr c50
           simp only [Option.some.injEq, Prod.mk.injEq] at H
           obtain ⟨rfl, rfl, rfl⟩ := H
           go_wp2_with (first | ((with_reducible refine gate_callee (f := 192) rfl ?_); refine zG (some 33) Try.func192 #[.pointer (some ⟨g, 0, none⟩), .int .i64 40] ?_; (with_reducible refine (spec_l1Cur_pick.calls g s0_0 x1001_1 x1002_1 40 t175 t176 t177 w0 _ ?side1 ?side2 A30.out).mono ?_); (case side1 => repeat (first | exact HI0.out | apply IsS102.alloc | apply IsS102.drewN | apply IsS102.drew | apply IsS102.set_1 | apply IsS102.set_2)); (case side2 => exact zBs HB (IsS102.ge HI0.out)); rintro e w54 ⟨rfl, hi, hb, hk⟩; refine ⟨_, rfl, ?_⟩; replace HO_3 := zk (Kd.R_mono (Kd.R_keep (IsS102.apart (show IsS102 w0 _ g s0_0 x1001_1 x1002_1 from by repeat (first | exact HI0.out | apply IsS102.alloc | apply IsS102.drewN | apply IsS102.drew | apply IsS102.set_1 | apply IsS102.set_2)) (zR HO_3) (by decide)) hk (fun _ h => h.2)) (fun _ h => h.1)); replace HK := zk (KeepBut.trans (zK HK) hk (.inl rfl)); replace HB := zk (hb); replace HI0 := zk (hi); (try clear hb); (try clear hb2); (try clear hk); (try clear hi)))
           go_ret
           exact ⟨_, by first | rfl | (simp [errW_none, errW_some] <;> rfl) | (simp [*, errW_none, errW_some] <;> rfl), by (with_reducible repeat (first | apply zs | apply zr | apply zt)); exact HO_3.out, by repeat (first | exact HI0.out | apply IsS102.alloc | apply IsS102.drewN | apply IsS102.drew | apply IsS102.set_1 | apply IsS102.set_2), by repeat (first | (with_reducible first | exact HB.out | apply za | apply zd | apply ze | refine below_set ?_ (IsS102.ge HI0.out)) | exact HB.out), by repeat (first | exact HK.out | apply KeepBut.set_ | apply keep_drewN | apply keep_drew | apply keep_alloc)⟩
         rw [if_pos c50] at H
         have c50b0 : (t175 == 2) = true := beq_iff_eq.mpr c50
         have c50b1 : (t175 != 2) = false := bne_eq_false_iff_eq.mpr c50
         clear c50
         obtain ⟨y191, hy191⟩ : ∃ y_ : List Int, y_ = (([1, 2, 3, 4, 5, 6, 7, 8] : List Int)) := ⟨_, rfl⟩
         replace H : (some (y191, t176, t177)) = some (r1, r2, r3) := by first | (rw [hy191]; with_reducible exact H) | (have H2_ := (Option.bind_some _ _).symm.trans H; rw [hy191]; with_reducible exact H2_) | (have H2_ := (Option.bind_some _ _).symm.trans H; with_reducible exact H2_) | with_reducible exact H | (rw [hy191]; exact H) | exact H
         have Ny191 := zk hy191
         clear hy191
         simp only [Option.some.injEq, Prod.mk.injEq] at H
         obtain ⟨rfl, rfl, rfl⟩ := H
         go_wp2_with (first | ((with_reducible refine gate_callee (f := 192) rfl ?_); refine zG (some 33) Try.func192 #[.pointer (some ⟨g, 0, none⟩), .int .i64 40] ?_; (with_reducible refine (spec_l1Cur_pick.calls g s0_0 x1001_1 x1002_1 40 t175 t176 t177 w0 _ ?side1 ?side2 A30.out).mono ?_); (case side1 => repeat (first | exact HI0.out | apply IsS102.alloc | apply IsS102.drewN | apply IsS102.drew | apply IsS102.set_1 | apply IsS102.set_2)); (case side2 => exact zBs HB (IsS102.ge HI0.out)); rintro e w51 ⟨rfl, hi, hb, hk⟩; refine ⟨_, rfl, ?_⟩; replace HO_3 := zk (Kd.R_mono (Kd.R_keep (IsS102.apart (show IsS102 w0 _ g s0_0 x1001_1 x1002_1 from by repeat (first | exact HI0.out | apply IsS102.alloc | apply IsS102.drewN | apply IsS102.drew | apply IsS102.set_1 | apply IsS102.set_2)) (zR HO_3) (by decide)) hk (fun _ h => h.2)) (fun _ h => h.1)); replace HK := zk (KeepBut.trans (zK HK) hk (.inl rfl)); replace HB := zk (hb); replace HI0 := zk (hi); (try clear hb); (try clear hb2); (try clear hk); (try clear hi)) | ((with_reducible refine gate_dst (N := 50) rfl ?_); refine zL 50 3 [1, 2, 3, 4, 5, 6, 7, 8] (Below.refl _ _) (Nat.le_refl _) ?_; intro v192 w52 ho53 hb hg_ hnew_; clear hg_ hnew_; (first | rw [← Ny191.out] at ho53 | (simp only [Int.reduceToNat] at ho53; rw [← Ny191.out] at ho53)); have HO193 := zk (Kd.R_lower (Kd.R_new' ho53 (Kd.R_lt (zR HO_3))) (keep_size (w := w) (g := g) (row := none) (zK HK))); replace HO_3 := zE HO_3 ho53 hb; replace HK := zk (KeepBut.trans (zK HK) (KeepBut.of_below hb g none) (.inl rfl)); replace HB := zk (below_step (zBs HB (IsS102.ge HI0.out)) hb); replace HI0 := zk (IsS102.below (by repeat (first | exact HI0.out | apply IsS102.alloc | apply IsS102.drewN | apply IsS102.drew | apply IsS102.set_1 | apply IsS102.set_2)) hb); clear hb ho53))
         go_ret
         exact ⟨_, by first | rfl | (simp [errW_none, errW_some] <;> rfl) | (simp [*, errW_none, errW_some] <;> rfl), by (with_reducible repeat (first | apply zs | apply zr | apply zt)); exact Kd.R_mono HO193.out (fun _ hk => trivial), by repeat (first | exact HI0.out | apply IsS102.alloc | apply IsS102.drewN | apply IsS102.drew | apply IsS102.set_1 | apply IsS102.set_2), by repeat (first | (with_reducible first | exact HB.out | apply za | apply zd | apply ze | refine below_set ?_ (IsS102.ge HI0.out)) | exact HB.out), by repeat (first | exact HK.out | apply KeepBut.set_ | apply keep_drewN | apply keep_drew | apply keep_alloc)⟩
       rw [if_pos c35] at H
       have c35b0 : (t175 == 1) = true := beq_iff_eq.mpr c35
       have c35b1 : (t175 != 1) = false := bne_eq_false_iff_eq.mpr c35
       clear c35
       replace H := Option.bind_eq_some_iff.mp H
       obtain ⟨⟨t181, t182, t183⟩, A360, H⟩ := H
       try dsimp only at H
       have A36 := zk A360
       clear A360
       obtain ⟨y184, hy184⟩ : ∃ y_ : List Int, y_ = (([0, 1, 8, (-1)] : List Int)) := ⟨_, rfl⟩
       rw [← hy184] at H
       try rw [zO y184] at H
       try dsimp only at H
       have Ny184 := zk hy184
       clear hy184
       replace H := Option.bind_eq_some_iff.mp H
       obtain ⟨⟨t187, t188, t189⟩, A370, H⟩ := H
       try dsimp only at H
       have A37 := zk A370
       clear A370
       by_cases c38 : 0 ≤ t181
       rotate_left
       · rw [if_neg c38] at H
         exact absurd H (by simp)
       rw [if_pos c38] at H
       have c38b0 := decide_eq_true c38
       clear c38
       by_cases c39 : t181 < (x3_1.length : Int)
       rotate_left
       · rw [if_neg c39] at H
         exact absurd H (by simp)
       rw [if_pos c39] at H
       have c39b0 := decide_eq_true c39
       clear c39
       obtain ⟨y190, hy190⟩ : ∃ y_ : List Int, y_ = (x3_1.set (t181 : Int).toNat t187) := ⟨_, rfl⟩
       replace H : (some (y190, t188, t189)) = some (r1, r2, r3) := by first | (rw [hy190]; with_reducible exact H) | (have H2_ := (Option.bind_some _ _).symm.trans H; rw [hy190]; with_reducible exact H2_) | (have H2_ := (Option.bind_some _ _).symm.trans H; with_reducible exact H2_) | with_reducible exact H | (rw [hy190]; exact H) | exact H
       have Ny190 := zk hy190
       clear hy190
       simp only [Option.some.injEq, Prod.mk.injEq] at H
       obtain ⟨rfl, rfl, rfl⟩ := H
       go_wp2_with (first | ((with_reducible refine gate_callee (f := 192) rfl ?_); refine zG (some 33) Try.func192 #[.pointer (some ⟨g, 0, none⟩), .int .i64 40] ?_; (with_reducible refine (spec_l1Cur_pick.calls g s0_0 x1001_1 x1002_1 40 t175 t176 t177 w0 _ ?side1 ?side2 A30.out).mono ?_); (case side1 => repeat (first | exact HI0.out | apply IsS102.alloc | apply IsS102.drewN | apply IsS102.drew | apply IsS102.set_1 | apply IsS102.set_2)); (case side2 => exact zBs HB (IsS102.ge HI0.out)); rintro e w41 ⟨rfl, hi, hb, hk⟩; refine ⟨_, rfl, ?_⟩; replace HO_3 := zk (Kd.R_mono (Kd.R_keep (IsS102.apart (show IsS102 w0 _ g s0_0 x1001_1 x1002_1 from by repeat (first | exact HI0.out | apply IsS102.alloc | apply IsS102.drewN | apply IsS102.drew | apply IsS102.set_1 | apply IsS102.set_2)) (zR HO_3) (by decide)) hk (fun _ h => h.2)) (fun _ h => h.1)); replace HK := zk (KeepBut.trans (zK HK) hk (.inl rfl)); replace HB := zk (hb); replace HI0 := zk (hi); (try clear hb); (try clear hb2); (try clear hk); (try clear hi); obtain ⟨Ao42, co42, eo42⟩ := Kd.R_slice HO_3.out; subst eo42) | ((with_reducible refine gate_callee (f := 192) rfl ?_); refine zG (some 43) Try.func192 #[.pointer (some ⟨g, 0, none⟩), .int .i64 (x3_1.length : Int)] ?_; (with_reducible refine (spec_l1Cur_pick.calls g s0_0 t176 t177 (x3_1.length : Int) t181 t182 t183 w0 _ ?side1 ?side2 A36.out).mono ?_); (case side1 => repeat (first | exact HI0.out | apply IsS102.alloc | apply IsS102.drewN | apply IsS102.drew | apply IsS102.set_1 | apply IsS102.set_2)); (case side2 => exact zBs HB (IsS102.ge HI0.out)); rintro e w43 ⟨rfl, hi, hb, hk⟩; refine ⟨_, rfl, ?_⟩; replace HO_3 := zk (Kd.R_mono (Kd.R_keep (IsS102.apart (show IsS102 w0 _ g s0_0 t176 t177 from by repeat (first | exact HI0.out | apply IsS102.alloc | apply IsS102.drewN | apply IsS102.drew | apply IsS102.set_1 | apply IsS102.set_2)) (zR HO_3) (by decide)) hk (fun _ h => h.2)) (fun _ h => h.1)); replace HK := zk (KeepBut.trans (zK HK) hk (.inl rfl)); replace HB := zk (hb); replace HI0 := zk (hi); (try clear hb); (try clear hb2); (try clear hk); (try clear hi)) | ((with_reducible refine gate_dst (N := 45) rfl ?_); refine zL 45 3 [0, 1, 8, (-1)] (Below.refl _ _) (Nat.le_refl _) ?_; intro v185 w44 ho45 hb hg_ hnew_; clear hg_ hnew_; (first | rw [← Ny184.out] at ho45 | (simp only [Int.reduceToNat] at ho45; rw [← Ny184.out] at ho45)); have HO186 := zk (Kd.R_lower (Kd.R_new' ho45 (Kd.R_lt (zR HO_3))) (keep_size (w := w) (g := g) (row := none) (zK HK))); replace HO_3 := zE HO_3 ho45 hb; replace HK := zk (KeepBut.trans (zK HK) (KeepBut.of_below hb g none) (.inl rfl)); replace HB := zk (below_step (zBs HB (IsS102.ge HI0.out)) hb); replace HI0 := zk (IsS102.below (by repeat (first | exact HI0.out | apply IsS102.alloc | apply IsS102.drewN | apply IsS102.drew | apply IsS102.set_1 | apply IsS102.set_2)) hb); clear hb ho45; obtain ⟨Ao46, co46, eo46⟩ := Kd.R_slice HO186.out; subst eo46) | ((with_reducible refine gate_callee (f := 195) rfl ?_); refine zG (some 46) Try.func195 #[.pointer (some ⟨g, 0, none⟩), .slice Ao46 y184.length co46] ?_; (with_reducible refine (spec_l1Cur_among.calls g s0_0 t182 t183 _ _ y184 t187 t188 t189 w0 _ ?side1 ?side2 ?side3 ?side4 ?side5 A37.out).mono ?_); (case side1 => repeat (first | exact HI0.out | apply IsS102.alloc | apply IsS102.drewN | apply IsS102.drew | apply IsS102.set_1 | apply IsS102.set_2)); (case side2 => exact zBs HB (IsS102.ge HI0.out)); (case side3 => exact zC (Kd.R_reads' HO186.out).2.2); (case side4 => exact (Kd.R_reads' HO186.out).2.1); (case side5 => exact far_slice (IsS102.own_ne HI0.out HO186.out (by decide))); rintro e w47 ⟨rfl, hi, hb, hk⟩; refine ⟨_, rfl, ?_⟩; replace HO_3 := zk (Kd.R_mono (Kd.R_keep (IsS102.apart (show IsS102 w0 _ g s0_0 t182 t183 from by repeat (first | exact HI0.out | apply IsS102.alloc | apply IsS102.drewN | apply IsS102.drew | apply IsS102.set_1 | apply IsS102.set_2)) (zR HO_3) (by decide)) hk (fun _ h => h.2)) (fun _ h => h.1)); replace HO186 := zk (Kd.R_mono (Kd.R_keep (IsS102.apart (show IsS102 w0 _ g s0_0 t182 t183 from by repeat (first | exact HI0.out | apply IsS102.alloc | apply IsS102.drewN | apply IsS102.drew | apply IsS102.set_1 | apply IsS102.set_2)) (zR HO186) (by decide)) hk (fun _ h => h.2)) (fun _ h => h.1)); replace HK := zk (KeepBut.trans (zK HK) hk (.inl rfl)); replace HB := zk (hb); replace HI0 := zk (hi); (try clear hb); (try clear hb2); (try clear hk); (try clear hi); have p40 : 0 ≤ (t181 : Int) := zo (by assumption); have q40 : (t181 : Int) < ((x3_1.length : Int) : Int) := zo (by assumption); obtain ⟨go40, co40, eo40, gb40, gl40, cl40, HG40⟩ := Kd.R_form HO_3.out (by omega); (first | cases eo40 | (injection eo40 with ea_ en_ ec_; (first | subst ea_ | (injection ea_ with ea_; subst ea_)); subst ec_; clear en_)); have GB40 := zk gb40; have GG40 := zk HG40; clear gb40 gl40 HG40; obtain ⟨hx40_0, hf40_0⟩ := Kd.R_celln 0 HO_3.out (t181 : Int) p40 q40; replace p40 := eq_true p40; replace q40 := eq_true q40; have n_ := zk (Kd.R_mono (ok' := (fun k_ => some k_ ≠ (.slice Ao46 y184.length co46 : Value).ownBlock)) HO_3.out (fun k_ hk => hk.2)); clear HO_3; have HO_3 := n_; clear n_; obtain ⟨hy48_, hz48_⟩ := Kd.R_celln 0 HO_3.out (t181 : Int) (zo (by assumption)) (zo (by assumption)); have HP48 := Kd.R_putg HO_3.out (t181 : Int) t187) | ((with_reducible refine gate_store (t := 3) (p := 47) rfl ?_); refine store_event (t := 3) (p := 47) (v := ?vo_w49) (w1 := (w47.setCell ⟨go40, (t181 : Int).toNat, none⟩ (.int .i64 t187))) ?hg ?ho ?hn ?hr ?_; (case ho => rfl); (case hg => rfl); (case hn => rfl); (case hr => first | (go_simp; done) | (go_simp; rfl)); intro w49 hw; have hg : w47.grownBy w49 (some go40) := (by rw [hw]; exact HP48.2); have hp_ : Kd.R (Kd.int .i64) 3 w49 w.heap.size (fun k_ => some k_ ≠ (.slice Ao46 y184.length co46 : Value).ownBlock) (.slice (some ⟨go40, 0, none⟩) x3_1.length co42) y190 := (by rw [hw, Ny190.out]; exact HP48.1); clear HP48; replace HI0 := zk (IsS102.grown (by repeat (first | exact HI0.out | apply IsS102.alloc | apply IsS102.drewN | apply IsS102.drew | apply IsS102.set_1 | apply IsS102.set_2)) hg (IsS102.own_ne HI0.out HO_3.out (by decide))); replace HO186 := zk (Kd.R_after (v := (.slice (some ⟨go40, 0, none⟩) x3_1.length co42)) (v1 := (.slice (some ⟨go40, 0, none⟩) x3_1.length co42)) (ok := (fun _ => True)) (zR HO186) hg (.inl rfl)); replace HB := zk ((by rw [hw]; exact below_set (HB.out) (Nat.le_trans HL.out GB40.out) : Below w0.heap.size w0 w49)); replace HK := zk (KeepBut.trans (zK HK) (KeepBut.of_grown hg g) (Kd.R_base2 HO_3.out)); replace HO_3 := zk (hp_); clear hg hw hp_))
       go_ret
       exact ⟨_, by first | rfl | (simp [errW_none, errW_some] <;> rfl) | (simp [*, errW_none, errW_some] <;> rfl), by (with_reducible repeat (first | apply zs | apply zr | apply zt)); exact Kd.R_mono HO_3.out (fun _ hk => trivial), by repeat (first | exact HI0.out | apply IsS102.alloc | apply IsS102.drewN | apply IsS102.drew | apply IsS102.set_1 | apply IsS102.set_2), by repeat (first | (with_reducible first | exact HB.out | apply za | apply zd | apply ze | refine below_set ?_ (IsS102.ge HI0.out)) | exact HB.out), by repeat (first | exact HK.out | apply KeepBut.set_ | apply keep_drewN | apply keep_drew | apply keep_alloc)⟩
     rw [if_pos c31] at H
     have c31b0 : (t175 == 0) = true := beq_iff_eq.mpr c31
     have c31b1 : (t175 != 0) = false := bne_eq_false_iff_eq.mpr c31
     clear c31
     obtain ⟨y178, hy178⟩ : ∃ y_ : List Int, y_ = (([] : List Int)) := ⟨_, rfl⟩
     replace H : (some (y178, t176, t177)) = some (r1, r2, r3) := by first | (rw [hy178]; with_reducible exact H) | (have H2_ := (Option.bind_some _ _).symm.trans H; rw [hy178]; with_reducible exact H2_) | (have H2_ := (Option.bind_some _ _).symm.trans H; with_reducible exact H2_) | with_reducible exact H | (rw [hy178]; exact H) | exact H
     have Ny178 := zk hy178
     clear hy178
     simp only [Option.some.injEq, Prod.mk.injEq] at H
     obtain ⟨rfl, rfl, rfl⟩ := H
     go_wp2_with (first | ((with_reducible refine gate_callee (f := 192) rfl ?_); refine zG (some 33) Try.func192 #[.pointer (some ⟨g, 0, none⟩), .int .i64 40] ?_; (with_reducible refine (spec_l1Cur_pick.calls g s0_0 x1001_1 x1002_1 40 t175 t176 t177 w0 _ ?side1 ?side2 A30.out).mono ?_); (case side1 => repeat (first | exact HI0.out | apply IsS102.alloc | apply IsS102.drewN | apply IsS102.drew | apply IsS102.set_1 | apply IsS102.set_2)); (case side2 => exact zBs HB (IsS102.ge HI0.out)); rintro e w32 ⟨rfl, hi, hb, hk⟩; refine ⟨_, rfl, ?_⟩; replace HO_3 := zk (Kd.R_mono (Kd.R_keep (IsS102.apart (show IsS102 w0 _ g s0_0 x1001_1 x1002_1 from by repeat (first | exact HI0.out | apply IsS102.alloc | apply IsS102.drewN | apply IsS102.drew | apply IsS102.set_1 | apply IsS102.set_2)) (zR HO_3) (by decide)) hk (fun _ h => h.2)) (fun _ h => h.1)); replace HK := zk (KeepBut.trans (zK HK) hk (.inl rfl)); replace HB := zk (hb); replace HI0 := zk (hi); (try clear hb); (try clear hb2); (try clear hk); (try clear hi)) | ((with_reducible refine gate_dst (N := 36) rfl ?_); refine zL 36 3 [] (Below.refl _ _) (Nat.le_refl _) ?_; intro v179 w33 ho34 hb hg_ hnew_; clear hg_ hnew_; (first | rw [← Ny178.out] at ho34 | (simp only [Int.reduceToNat] at ho34; rw [← Ny178.out] at ho34)); have HO180 := zk (Kd.R_lower (Kd.R_new' ho34 (Kd.R_lt (zR HO_3))) (keep_size (w := w) (g := g) (row := none) (zK HK))); replace HO_3 := zE HO_3 ho34 hb; replace HK := zk (KeepBut.trans (zK HK) (KeepBut.of_below hb g none) (.inl rfl)); replace HB := zk (below_step (zBs HB (IsS102.ge HI0.out)) hb); replace HI0 := zk (IsS102.below (by repeat (first | exact HI0.out | apply IsS102.alloc | apply IsS102.drewN | apply IsS102.drew | apply IsS102.set_1 | apply IsS102.set_2)) hb); clear hb ho34))
     go_ret
     exact ⟨_, by first | rfl | (simp [errW_none, errW_some] <;> rfl) | (simp [*, errW_none, errW_some] <;> rfl), by (with_reducible repeat (first | apply zs | apply zr | apply zt)); exact Kd.R_mono HO180.out (fun _ hk => trivial), by repeat (first | exact HI0.out | apply IsS102.alloc | apply IsS102.drewN | apply IsS102.drew | apply IsS102.set_1 | apply IsS102.set_2), by repeat (first | (with_reducible first | exact HB.out | apply za | apply zd | apply ze | refine below_set ?_ (IsS102.ge HI0.out)) | exact HB.out), by repeat (first | exact HK.out | apply KeepBut.set_ | apply keep_drewN | apply keep_drew | apply keep_alloc)⟩
   rw [if_pos c9] at H
   have c9b0 := decide_eq_true c9
   clear c9
   replace H := Option.bind_eq_some_iff.mp H
   obtain ⟨⟨t152, t153, t154⟩, A100, H⟩ := H
   try dsimp only at H
   have A10 := zk A100
   clear A100
   by_cases c11 : 0 ≤ t152
   rotate_left
   · rw [if_neg c11] at H
     exact absurd H (by simp)
   rw [if_pos c11] at H
   have c11b0 := eq_true c11
   have c11b1 := decide_eq_true c11
   clear c11
   by_cases c12 : t152 ≤ (x3_1.length : Int)
   rotate_left
   · rw [if_neg c12] at H
     exact absurd H (by simp)
   rw [if_pos c12] at H
   have c12b0 := eq_true c12
   have c12b1 := decide_eq_true c12
   clear c12
   obtain ⟨y155, hy155⟩ : ∃ y_ : List Int, y_ = (x3_1.take (t152 : Int).toNat) := ⟨_, rfl⟩
   rw [← hy155] at H
   try rw [zO y155] at H
   try dsimp only at H
   have Ny155 := zk hy155
   clear hy155
   replace H := Option.bind_eq_some_iff.mp H
   obtain ⟨t159, A130, H⟩ := H
   try dsimp only at H
   have A13 := zk A130
   clear A130
   obtain ⟨y162, hy162⟩ : ∃ y_ : List Int, y_ = (([wrap64 ((x3_1.length : Int) + 1)] : List Int)) := ⟨_, rfl⟩
   rw [← hy162] at H
   try rw [zO y162] at H
   try dsimp only at H
   have Ny162 := zk hy162
   clear hy162
   by_cases c14 : t159.length + y162.length < 17592186044416
   rotate_left
   · rw [if_neg c14] at H
     exact absurd H (by simp)
   rw [if_pos c14] at H
   have LMc14 := zk c14
   clear c14
   obtain ⟨y165, hy165⟩ : ∃ y_ : List Int, y_ = (t159 ++ y162) := ⟨_, rfl⟩
   rw [← hy165] at H
   try rw [zO y165] at H
   try dsimp only at H
   have Ny165 := zk hy165
   clear hy165
   have c15b0 := eq_true (zo (by assumption) : 0 ≤ t152)
   have c16b0 := eq_true (zo (by assumption) : t152 ≤ (x3_1.length : Int))
   obtain ⟨y168, hy168⟩ : ∃ y_ : List Int, y_ = (x3_1.drop (t152 : Int).toNat) := ⟨_, rfl⟩
   rw [← hy168] at H
   try rw [zO y168] at H
   try dsimp only at H
   have Ny168 := zk hy168
   clear hy168
   by_cases c17 : y165.length + y168.length < 17592186044416
   rotate_left
   · rw [if_neg c17] at H
     exact absurd H (by simp)
   rw [if_pos c17] at H
   have LMc17 := zk c17
   clear c17
   obtain ⟨y172, hy172⟩ : ∃ y_ : List Int, y_ = (y165 ++ y168) := ⟨_, rfl⟩
   replace H : (spec_l1Cur_order.l0 k1 y172 (wrap64 (x4_1 - 1)) s0_0 t153 t154) = some (r1, r2, r3) := by first | (rw [hy172]; with_reducible exact H) | (have H2_ := (Option.bind_some _ _).symm.trans H; rw [hy172]; with_reducible exact H2_) | (have H2_ := (Option.bind_some _ _).symm.trans H; with_reducible exact H2_) | with_reducible exact H | (rw [hy172]; exact H) | exact H
   have Ny172 := zk hy172
   clear hy172
   have H' := zk H
   clear H
   obtain ⟨Ao18, co18, eo18⟩ := Kd.R_slice HO_3.out
   subst eo18
   try go_wp2_with (first | ((with_reducible refine gate_callee (f := 192) rfl ?_); refine zG (some 18) Try.func192 #[.pointer (some ⟨g, 0, none⟩), .int .i64 (wrap64 ((x3_1.length : Int) + 1))] ?_; (with_reducible refine (spec_l1Cur_pick.calls g s0_0 x1001_1 x1002_1 (wrap64 ((x3_1.length : Int) + 1)) t152 t153 t154 w0 _ ?side1 ?side2 A10.out).mono ?_); (case side1 => repeat (first | exact HI0.out | apply IsS102.alloc | apply IsS102.drewN | apply IsS102.drew | apply IsS102.set_1 | apply IsS102.set_2)); (case side2 => exact zBs HB (IsS102.ge HI0.out)); rintro e w19 ⟨rfl, hi, hb, hk⟩; refine ⟨_, rfl, ?_⟩; replace HO_3 := zk (Kd.R_mono (Kd.R_keep (IsS102.apart (show IsS102 w0 _ g s0_0 x1001_1 x1002_1 from by repeat (first | exact HI0.out | apply IsS102.alloc | apply IsS102.drewN | apply IsS102.drew | apply IsS102.set_1 | apply IsS102.set_2)) (zR HO_3) (by decide)) hk (fun _ h => h.2)) (fun _ h => h.1)); replace HK := zk (KeepBut.trans (zK HK) hk (.inl rfl)); replace HB := zk (hb); replace HI0 := zk (hi); (try clear hb); (try clear hb2); (try clear hk); (try clear hi)))
   have n0_ := zk (zt HO_3.out)
   have n1_ := zk (IsS102.drew HI0.out)
   have n2_ := zk (keep_drew HK.out)
   have n3_ := zk (ze HB.out)
   clear HO_3
   clear HI0
   clear HK
   clear HB
   have HO_3 := n0_
   have HI0 := n1_
   have HK := n2_
   have HB := n3_
   clear n0_ n1_ n2_ n3_
   have q21 : (t152 : Int) ≤ ((x3_1.length : Int) : Int) := zo (by assumption)
   obtain ⟨i021, hi021, _, hsz21, _⟩ := info_parts info3
   have hroom21 : x3_1.length ≤ co18 := (Kd.R_reads' HO_3.out).2.1
   have hC21 : Kd.C (Kd.int .i64) _ Ao18 x3_1.length x3_1 := (Kd.R_reads' HO_3.out).2.2
   have hcut21 := cut_to (P := Try.prog) 22 3 .i64 Try.underlying22 hi021 Ao18 x3_1.length co18 t152 (zo (by assumption)) q21 hroom21
   have hr21 := Kd.C_take (m := (t152 : Int).toNat) hC21 (by omega)
   have hy21 : y155.length = (t152 : Int).toNat := (by rw [Ny155.out, List.length_take]; omega)
   rw [← Ny155.out] at hr21
   rw [← hy21] at hcut21
   have HR158 := zk hr21
   have HC158 := zk (show y155.length ≤ co18 from by omega)
   clear hr21 hC21 hroom21 hi021 hsz21
   have KY21 := zk hy21
   clear hy21
   have KL21 := zk (show (t152 : Int).toNat ≤ x3_1.length from by omega)
   replace q21 := eq_true q21
   have q22 : (t152 : Int) ≤ ((x3_1.length : Int) : Int) := zo (by assumption)
   obtain ⟨i022, hi022, _, hsz22, _⟩ := info_parts info3
   have hroom22 : x3_1.length ≤ co18 := (Kd.R_reads' HO_3.out).2.1
   have hC22 : Kd.C (Kd.int .i64) _ Ao18 x3_1.length x3_1 := (Kd.R_reads' HO_3.out).2.2
   have q022 : (0 : Int) ≤ (t152 : Int) := zo (by assumption)
   have hcut22 := cut_from (P := Try.prog) 22 3 .i64 Try.underlying22 hi022 1 hsz22 Ao18 x3_1.length co18 t152 q022 q22
   have hr22 := Kd.C_drop (m := (t152 : Int).toNat) (c := co18) hC22 (by omega) hroom22
   obtain ⟨A22, hA22⟩ : ∃ A1, A1 = (if co18 = (t152 : Int).toNat then Ao18 else (Ao18 : Option Addr).map (·.add ((t152 : Int).toNat * 1))) := ⟨_, rfl⟩
   obtain ⟨c22, hc22⟩ : ∃ c1, c1 = co18 - (t152 : Int).toNat := ⟨_, rfl⟩
   have hy22 : y168.length = x3_1.length - (t152 : Int).toNat := (by rw [Ny168.out, List.length_drop] <;> omega)
   rw [show (x3_1).drop (t152 : Int).toNat = y168 from Ny168.out.symm] at hr22
   replace hr22 : Kd.C (Kd.int .i64) _ A22 y168.length y168 := (by rw [hA22]; exact hr22)
   rw [← hy22, ← hA22, ← hc22] at hcut22
   have HR171 := zk hr22
   have HC171 := zk (show y168.length ≤ c22 from by rw [hy22, hc22]; exact Nat.sub_le_sub_right hroom22 _)
   clear hr22 hC22 hroom22 hi022 hsz22 hc22
   have KY22 := zk hy22
   have KA22 := zk hA22
   clear hy22 hA22
   have KL22 := zk (show (t152 : Int).toNat ≤ x3_1.length from by omega)
   replace q22 := eq_true q22
   refine start_ (n := 14) (S := fun w' => True) (ds := []) #[false, false, false, false, false, false, false, false, false, false, false, false, false, false] (by kernel_rfl) rfl rfl trivial (fun hHeld => ?_); refine with_tabW spec_l1Cur_order.tab6 spec_l1Cur_order.bits6 (fun HT_ HW_ => ?_)
   generalize w19.drew = w20 at HO_3 HI0 HK HB HR158 HR171 hHeld ⊢
   refine pure_ (i := 0) (N := some 19) (v := ?_) (a' := ?_) #[true, false, false, false, false, false, false, false, false, false, false, false, false, false] rfl rfl (any_of HT_.out (by kernel_rfl)) (fun _ _ _ h => h) (Or.inl ⟨by rfl, ?_⟩) ?_ ?_
   rotate_left
   · intro w'
     go_simp
     with_reducible rfl
   rotate_left
   · exact zQ
   refine pure_ (i := 1) (N := some 20) (v := ?_) (a' := ?_) #[true, true, false, false, false, false, false, false, false, false, false, false, false, false] rfl rfl (any_of HT_.out (by kernel_rfl)) (fun _ _ _ h => h) (Or.inl ⟨by rfl, ?_⟩) ?_ ?_
   rotate_left
   · intro w'
     go_simp
     with_reducible rfl
   rotate_left
   · exact zQ
   refine pure_ (i := 2) (N := some 21) (v := ?_) (a' := ?_) #[true, true, true, false, false, false, false, false, false, false, false, false, false, false] rfl rfl (any_of HT_.out (by kernel_rfl)) (fun _ _ _ h => h) (Or.inl ⟨by rfl, ?_⟩) ?_ ?_
   rotate_left
   · intro w'
     go_simp
     with_reducible rfl
   rotate_left
   · exact zQ
   refine pure_ (i := 4) (N := some 23) (v := ?_) (a' := ?_) #[true, true, true, false, true, false, false, false, false, false, false, false, false, false] rfl rfl (any_of HT_.out (by kernel_rfl)) (fun _ _ _ h => h) (Or.inl ⟨by rfl, ?_⟩) ?_ ?_
   rotate_left
   · intro w'
     go_simp
     with_reducible rfl
   rotate_left
   · exact zQ
   refine pure_ (i := 5) (N := some 24) (v := ?_) (a' := ?_) #[true, true, true, false, true, true, false, false, false, false, false, false, false, false] rfl rfl (any_of HT_.out (by kernel_rfl)) (fun _ _ _ h => h) (Or.inl ⟨by rfl, ?_⟩) ?_ ?_
   rotate_left
   · intro w'
     go_simp
     with_reducible rfl
   rotate_left
   · exact zQ
   refine pure_ (i := 6) (N := some 25) (v := ?_) (a' := ?_) #[true, true, true, false, true, true, true, false, false, false, false, false, false, false] rfl rfl (any_of HT_.out (by kernel_rfl)) (fun _ _ _ h => h) (Or.inl ⟨by rfl, ?_⟩) ?_ ?_
   rotate_left
   · intro w'
     go_simp
     with_reducible rfl
   rotate_left
   · exact zQ
   refine pure_ (i := 9) (N := some 28) (v := ?_) (a' := ?_) #[true, true, true, false, true, true, true, false, false, true, false, false, false, false] rfl rfl (any_of HT_.out (by kernel_rfl)) (fun _ _ _ h => h) (Or.inl ⟨by rfl, ?_⟩) ?_ ?_
   rotate_left
   · intro w'
     go_simp
     with_reducible rfl
   rotate_left
   · exact zQ
   refine pure_ (i := 10) (N := some 29) (v := ?_) (a' := ?_) #[true, true, true, false, true, true, true, false, false, true, true, false, false, false] rfl rfl (any_of HT_.out (by kernel_rfl)) (fun _ _ _ h => h) (Or.inl ⟨by rfl, ?_⟩) ?_ ?_
   rotate_left
   · intro w'
     go_simp
     with_reducible rfl
   rotate_left
   · exact zQ
   refine pure_ (i := 11) (N := some 30) (v := ?_) (a' := ?_) #[true, true, true, false, true, true, true, false, false, true, true, true, false, false] rfl rfl (any_of HT_.out (by kernel_rfl)) (fun _ _ _ h => h) (Or.inl ⟨by rfl, ?_⟩) ?_ ?_
   rotate_left
   · intro w'
     go_simp
     with_reducible rfl
   rotate_left
   · exact zQ
   refine join_ (σ := Value × Value) 3 #[true, true, true, true, true, true, true, true, false, true, true, true, false, false] (fun s_ => [(22, s_.1), (26, s_.2)]) (fun s_ w' => (Kd.R (Kd.int .i64) 3 w' w.heap.size (fun k_ => some k_ ≠ (s_.2 : Value).ownBlock ∧ some k_ ≠ (.slice Ao18 x3_1.length co18 : Value).ownBlock) s_.1 t159) ∧ (Kd.R (Kd.int .i64) 3 w' w.heap.size (fun k_ => some k_ ≠ (s_.1 : Value).ownBlock ∧ some k_ ≠ (.slice Ao18 x3_1.length co18 : Value).ownBlock) s_.2 y162) ∧ (Kd.R (Kd.int .i64) 3 w' w.heap.size (fun k_ => some k_ ≠ (s_.1 : Value).ownBlock ∧ some k_ ≠ (s_.2 : Value).ownBlock) (.slice Ao18 x3_1.length co18) x3_1) ∧ (IsS102 w0 w' g s0_0 t153 t154) ∧ (KeepBut w w' g none) ∧ (Below w0.heap.size w0 w')) ?_ ?_
   rotate_left
   · intro hCont
     refine two_ (i := 3) (j := 7) (Ni := some 22) (Nj := some 26) #[true, true, true, true, true, true, true, false, false, true, true, true, false, false] #[true, true, true, false, true, true, true, true, false, true, true, true, false, false] rfl rfl rfl rfl (two_of HT_.out (by kernel_rfl)) (by decide) (by decide) (fun K hK => ?_) (fun K hK => ?_)
     · skip
       refine goes_ Try.func169 (by kernel_rfl) rfl #[.slice Ao18 y155.length co18] (by rfl) rfl rfl (by (try simp only [List.map_toArray, List.map_cons, List.map_nil]); first | done | rfl | (simp only [List.length_drop, List.length_take]; rfl)) ?_
       with_reducible refine (spec_l1Own.calls _ _ y155 t159 _ ?side1 ?side2 A13.out).mono ?_
       (case side1 => exact zC HR158.out)
       (case side2 => exact HC158.out)
       rintro e w23 ⟨v160, rfl, ho0, hb⟩
       refine ⟨_, rfl, ?_⟩
       have n0_ := zE HO_3 ho0 hb
       have n1_ := zk (Kd.R_lower (Kd.R_new' ho0 (Kd.R_lt (zR HO_3))) (keep_size (w := w) (g := g) (row := none) (zK HK)))
       have n2_ := zk (IsS102.below (by repeat (first | exact HI0.out | apply IsS102.alloc | apply IsS102.drewN | apply IsS102.drew | apply IsS102.set_1 | apply IsS102.set_2)) hb)
       have n3_ := zk (Kd.C_below (zC HR158.out) hb)
       have n4_ := zk (Kd.C_below (zC HR171.out) hb)
       have n5_ := zk (KeepBut.trans (zK HK) (KeepBut.of_below hb g none) (.inl rfl))
       have n6_ := zk (below_step (zBs HB (IsS102.ge HI0.out)) hb)
       clear HO_3
       clear HI0
       clear HR158
       clear HR171
       clear HK
       clear HB
       have HO_3 := n0_
       have HO161 := n1_
       have HI0 := n2_
       have HR158 := n3_
       have HR171 := n4_
       have HK := n5_
       have HB := n6_
       clear n0_ n1_ n2_ n3_ n4_ n5_ n6_
       (try clear hb)
       (try clear hb2)
       (try clear hk)
       (try clear hi)
       (try clear ho0)
       refine hK.out _ _ trivial (fun hHeld => ?_)
       clear hK K
       refine zM 22 ?_
       refine one_ (i := 7) (N := some 26) #[true, true, true, true, true, true, true, true, false, true, true, true, false, false] rfl rfl (one_of HT_.out (by kernel_rfl)) (by decide) (fun K hK => ?_)
       refine Kd.R_lit_step (Kd.int .i64) _ 3 ?hg (N := 26) ?hd (xs := ([wrap64 ((x3_1.length : Int) + 1)] : List Int)) (inner := [.int .i64 (wrap64 ((x3_1.length : Int) + 1))]) (ok := fun _ => True) (okp := fun _ => True) ?hr ?hp (fun _ hk => hk) trivial (Below.refl _ _) (Nat.le_refl _) (by simp) ?_; (case hd => rfl); (case hg => rfl); (case hr => first | (go_simp; done) | (go_simp; rfl)); (case hp => exact (Reps.one (show Kd.M (Kd.int .i64) _ _ _ (wrap64 ((x3_1.length : Int) + 1)) [.int .i64 (wrap64 ((x3_1.length : Int) + 1))] from rfl) (Reps.none _ _)))
       intro v163 w24 ho25 hb hg_ hnew_
       clear hg_ hnew_
       (first | rw [← Ny162.out] at ho25 | (simp only [Int.reduceToNat] at ho25; rw [← Ny162.out] at ho25))
       have n0_ := zE HO_3 ho25 hb
       have n1_ := zE HO161 ho25 hb
       have n2_ := zk (Kd.R_lower (Kd.R_new' (Kd.R_new' ho25 (Kd.R_lt (zR HO_3))) (Kd.R_lt (zR HO161))) (keep_size (w := w) (g := g) (row := none) (zK HK)))
       have n3_ := zk (IsS102.below (by repeat (first | exact HI0.out | apply IsS102.alloc | apply IsS102.drewN | apply IsS102.drew | apply IsS102.set_1 | apply IsS102.set_2)) hb)
       have n4_ := zk (Kd.C_below (zC HR158.out) hb)
       have n5_ := zk (Kd.C_below (zC HR171.out) hb)
       have n6_ := zk (KeepBut.trans (zK HK) (KeepBut.of_below hb g none) (.inl rfl))
       have n7_ := zk (below_step (zBs HB (IsS102.ge HI0.out)) hb)
       clear HO_3
       clear HO161
       clear HI0
       clear HR158
       clear HR171
       clear HK
       clear HB
       have HO_3 := n0_
       have HO161 := n1_
       have HO164 := n2_
       have HI0 := n3_
       have HR158 := n4_
       have HR171 := n5_
       have HK := n6_
       have HB := n7_
       clear n0_ n1_ n2_ n3_ n4_ n5_ n6_ n7_
       clear hb ho25
       refine hK.out _ _ trivial (fun hHeld => ?_)
       clear hK K
       refine zM 26 ?_
       exact norm_ (by simp only [putAll, Act.put, List.setIfInBounds_toArray, List.set_cons_zero, List.set_cons_succ]) (hCont (v160, v163) _ ⟨(by (with_reducible repeat (first | apply zs | apply zr | apply zt)); exact Kd.R_mono HO161.out (fun _ hk => ⟨hk.2, hk.1.2⟩)), (by (with_reducible repeat (first | apply zs | apply zr | apply zt)); exact Kd.R_mono HO164.out (fun _ hk => ⟨hk.2, hk.1.2⟩)), (by (with_reducible repeat (first | apply zs | apply zr | apply zt)); exact Kd.R_mono HO_3.out (fun _ hk => ⟨hk.1.2, hk.2⟩)), (by repeat (first | exact HI0.out | apply IsS102.alloc | apply IsS102.drewN | apply IsS102.drew | apply IsS102.set_1 | apply IsS102.set_2)), (zK HK), (zBs HB (IsS102.ge HI0.out))⟩)
     · skip
       refine Kd.R_lit_step (Kd.int .i64) _ 3 ?hg (N := 26) ?hd (xs := ([wrap64 ((x3_1.length : Int) + 1)] : List Int)) (inner := [.int .i64 (wrap64 ((x3_1.length : Int) + 1))]) (ok := fun _ => True) (okp := fun _ => True) ?hr ?hp (fun _ hk => hk) trivial (Below.refl _ _) (Nat.le_refl _) (by simp) ?_; (case hd => rfl); (case hg => rfl); (case hr => first | (go_simp; done) | (go_simp; rfl)); (case hp => exact (Reps.one (show Kd.M (Kd.int .i64) _ _ _ (wrap64 ((x3_1.length : Int) + 1)) [.int .i64 (wrap64 ((x3_1.length : Int) + 1))] from rfl) (Reps.none _ _)))
       intro v163 w23 ho24 hb hg_ hnew_
       clear hg_ hnew_
       (first | rw [← Ny162.out] at ho24 | (simp only [Int.reduceToNat] at ho24; rw [← Ny162.out] at ho24))
       have n0_ := zE HO_3 ho24 hb
       have n1_ := zk (Kd.R_lower (Kd.R_new' ho24 (Kd.R_lt (zR HO_3))) (keep_size (w := w) (g := g) (row := none) (zK HK)))
       have n2_ := zk (IsS102.below (by repeat (first | exact HI0.out | apply IsS102.alloc | apply IsS102.drewN | apply IsS102.drew | apply IsS102.set_1 | apply IsS102.set_2)) hb)
       have n3_ := zk (Kd.C_below (zC HR158.out) hb)
       have n4_ := zk (Kd.C_below (zC HR171.out) hb)
       have n5_ := zk (KeepBut.trans (zK HK) (KeepBut.of_below hb g none) (.inl rfl))
       have n6_ := zk (below_step (zBs HB (IsS102.ge HI0.out)) hb)
       clear HO_3
       clear HI0
       clear HR158
       clear HR171
       clear HK
       clear HB
       have HO_3 := n0_
       have HO164 := n1_
       have HI0 := n2_
       have HR158 := n3_
       have HR171 := n4_
       have HK := n5_
       have HB := n6_
       clear n0_ n1_ n2_ n3_ n4_ n5_ n6_
       clear hb ho24
       refine hK.out _ _ trivial (fun hHeld => ?_)
       clear hK K
       refine zM 26 ?_
       refine one_ (i := 3) (N := some 22) #[true, true, true, true, true, true, true, true, false, true, true, true, false, false] rfl rfl (one_of HT_.out (by kernel_rfl)) (by decide) (fun K hK => ?_)
       refine goes_ Try.func169 (by kernel_rfl) rfl #[.slice Ao18 y155.length co18] (by rfl) rfl rfl (by (try simp only [List.map_toArray, List.map_cons, List.map_nil]); first | done | rfl | (simp only [List.length_drop, List.length_take]; rfl)) ?_
       with_reducible refine (spec_l1Own.calls _ _ y155 t159 _ ?side1 ?side2 A13.out).mono ?_
       (case side1 => exact zC HR158.out)
       (case side2 => exact HC158.out)
       rintro e w25 ⟨v160, rfl, ho0, hb⟩
       refine ⟨_, rfl, ?_⟩
       have n0_ := zE HO_3 ho0 hb
       have n1_ := zE HO164 ho0 hb
       have n2_ := zk (Kd.R_lower (Kd.R_new' (Kd.R_new' ho0 (Kd.R_lt (zR HO_3))) (Kd.R_lt (zR HO164))) (keep_size (w := w) (g := g) (row := none) (zK HK)))
       have n3_ := zk (IsS102.below (by repeat (first | exact HI0.out | apply IsS102.alloc | apply IsS102.drewN | apply IsS102.drew | apply IsS102.set_1 | apply IsS102.set_2)) hb)
       have n4_ := zk (Kd.C_below (zC HR158.out) hb)
       have n5_ := zk (Kd.C_below (zC HR171.out) hb)
       have n6_ := zk (KeepBut.trans (zK HK) (KeepBut.of_below hb g none) (.inl rfl))
       have n7_ := zk (below_step (zBs HB (IsS102.ge HI0.out)) hb)
       clear HO_3
       clear HO164
       clear HI0
       clear HR158
       clear HR171
       clear HK
       clear HB
       have HO_3 := n0_
       have HO164 := n1_
       have HO161 := n2_
       have HI0 := n3_
       have HR158 := n4_
       have HR171 := n5_
       have HK := n6_
       have HB := n7_
       clear n0_ n1_ n2_ n3_ n4_ n5_ n6_ n7_
       (try clear hb)
       (try clear hb2)
       (try clear hk)
       (try clear hi)
       (try clear ho0)
       refine hK.out _ _ trivial (fun hHeld => ?_)
       clear hK K
       refine zM 22 ?_
       exact norm_ (by simp only [putAll, Act.put, List.setIfInBounds_toArray, List.set_cons_zero, List.set_cons_succ]) (hCont (v160, v163) _ ⟨(by (with_reducible repeat (first | apply zs | apply zr | apply zt)); exact Kd.R_mono HO161.out (fun _ hk => ⟨hk.2, hk.1.2⟩)), (by (with_reducible repeat (first | apply zs | apply zr | apply zt)); exact Kd.R_mono HO164.out (fun _ hk => ⟨hk.2, hk.1.2⟩)), (by (with_reducible repeat (first | apply zs | apply zr | apply zt)); exact Kd.R_mono HO_3.out (fun _ hk => ⟨hk.2, hk.1.2⟩)), (by repeat (first | exact HI0.out | apply IsS102.alloc | apply IsS102.drewN | apply IsS102.drew | apply IsS102.set_1 | apply IsS102.set_2)), (zK HK), (zBs HB (IsS102.ge HI0.out))⟩)
   rintro ⟨v160, v163⟩ w26 ⟨h0_, h1_, h2_, h3_, h4_, h5_⟩
   have n0_ : Aside0 (Kd.R (Kd.int .i64) 3 w26 w.heap.size (fun k_ => some k_ ≠ (v163 : Value).ownBlock ∧ some k_ ≠ (.slice Ao18 x3_1.length co18 : Value).ownBlock) v160 t159) := ⟨h0_⟩
   have n1_ : Aside0 (Kd.R (Kd.int .i64) 3 w26 w.heap.size (fun k_ => some k_ ≠ (v160 : Value).ownBlock ∧ some k_ ≠ (.slice Ao18 x3_1.length co18 : Value).ownBlock) v163 y162) := ⟨h1_⟩
   have n2_ : Aside0 (Kd.R (Kd.int .i64) 3 w26 w.heap.size (fun k_ => some k_ ≠ (v160 : Value).ownBlock ∧ some k_ ≠ (v163 : Value).ownBlock) (.slice Ao18 x3_1.length co18) x3_1) := ⟨h2_⟩
   have n3_ : Aside0 (IsS102 w0 w26 g s0_0 t153 t154) := ⟨h3_⟩
   have n4_ : Aside0 (KeepBut w w26 g none) := ⟨h4_⟩
   have n5_ : Aside0 (Below w0.heap.size w0 w26) := ⟨h5_⟩
   clear HO_3
   clear HI0
   clear HK
   clear HB
   clear h0_ h1_ h2_ h3_ h4_ h5_
   have HO161 := n0_
   have HO164 := n1_
   have HO_3 := n2_
   have HI0 := n3_
   have HK := n4_
   have HB := n5_
   clear n0_ n1_ n2_ n3_ n4_ n5_
   have hHeld := trivial
   (try clear HR158)
   have HR158 := zk (show Kd.C (Kd.int .i64) w26 Ao18 y155.length y155 from by rw [Ny155.out]; exact Kd.C_take (m := (t152 : Int).toNat) ((Kd.R_reads' HO_3.out).2.2) KL21.out)
   (try clear HR171)
   have HR171 := zk (show Kd.C (Kd.int .i64) w26 A22 y168.length y168 from by rw [Ny168.out, KA22.out]; exact Kd.C_drop (m := (t152 : Int).toNat) (c := co18) ((Kd.R_reads' HO_3.out).2.2) KL22.out ((Kd.R_reads' HO_3.out).2.1))
   obtain ⟨Ao28, co28, eo28⟩ := Kd.R_slice HO164.out
   (first | subst eo28 | (injection eo28 with f1_ f2_ f3_; have f4_ := f1_.symm; have f5_ := f3_.symm; clear f1_ f2_ f3_; subst f4_; subst f5_))
   refine norm_ (a' := ?_) ?_ ?_
   rotate_left
   · simp only [putAll, Act.put, List.setIfInBounds_toArray, List.set_cons_zero, List.set_cons_succ]
     rfl
   refine one_ (i := 8) (N := some 27) #[true, true, true, true, true, true, true, true, true, true, true, true, false, false] rfl rfl (one_of HT_.out (by kernel_rfl)) (by decide) (fun K hK => ?_)
   refine Kd.R_append_rows_step (Kd.int .i64) w.heap.size (by rfl) (.tmp 22) (.tmp 26) 22 3 (.int .i64 0) 8 rfl Try.underlying22 info3 rfl (by decide) (by omega) v160 t159 y162 _ _ _ (fun k_ => some k_ ≠ (.slice Ao18 x3_1.length co18 : Value).ownBlock ∧ some k_ ≠ (.slice Ao28 y162.length co28 : Value).ownBlock) (fun _ => False) rfl rfl ?aO ?aR (fun _ _ h => h) (fun _ h => h.elim) ?aF (Below.refl _ _) ?aS ?aL ?_
   (case aR => exact zC (Kd.R_reads' HO164.out).2.2)
   (case aF => exact (fun k_ hk => ⟨Kd.fresh' (Kd.R_lt (zR HO_3)) k_ hk, Kd.fresh' (Kd.R_lt (zR HO164)) k_ hk⟩))
   (case aO => exact (by (with_reducible repeat (first | apply zs | apply zr | apply zt)); exact Kd.R_mono HO161.out (fun _ hk => ⟨hk.2, hk.1⟩)))
   (case aS => exact (keep_size (w := w) (g := g) (row := none) (zK HK)))
   (case aL => have := LMc14.out; omega)
   intro v166 w27 ho hb hg hat
   rw [← Ny165.out] at ho
   have n0_ := zk (Kd.R_after (ok := (fun k_ => some k_ ≠ (.slice Ao28 y162.length co28 : Value).ownBlock)) (by (with_reducible repeat (first | apply zs | apply zr | apply zt)); first | exact Kd.R_mono HO_3.out (fun _ hk => ⟨hk.2, hk.1⟩) | exact Kd.R_mono HO_3.out (fun k_ hk => by (have own_ : ∀ (A : Option Addr) (n c : Nat), (Value.slice A n c).ownBlock = A.map Addr.block := fun A n c => by cases A <;> rfl); simp only [own_] at hk ⊢; exact ⟨hk.2, hk.1⟩)) hg hat)
   have n1_ := zk (IsS102.grown (by repeat (first | exact HI0.out | apply IsS102.alloc | apply IsS102.drewN | apply IsS102.drew | apply IsS102.set_1 | apply IsS102.set_2)) hg (IsS102.own_ne HI0.out HO161.out (by decide)))
   have n2_ := zk (Kd.R_after (ok := (fun k_ => some k_ ≠ (.slice Ao18 x3_1.length co18 : Value).ownBlock)) (by (with_reducible repeat (first | apply zs | apply zr | apply zt)); first | exact Kd.R_mono HO164.out (fun _ hk => ⟨hk.2, hk.1⟩) | exact Kd.R_mono HO164.out (fun k_ hk => by (have own_ : ∀ (A : Option Addr) (n c : Nat), (Value.slice A n c).ownBlock = A.map Addr.block := fun A n c => by cases A <;> rfl); simp only [own_] at hk ⊢; exact ⟨hk.2, hk.1⟩)) hg hat)
   have n3_ := zk (below_weaken (zBs HB (IsS102.ge HI0.out)) HL.out hb)
   have n4_ := zk (KeepBut.trans (zK HK) (KeepBut.of_grown hg g) (Kd.R_base2 HO161.out))
   have n5_ := zk ((show Kd.C (Kd.int .i64) w27 Ao18 y155.length y155 from by rw [Ny155.out]; exact Kd.C_take (m := (t152 : Int).toNat) ((Kd.R_reads' (Kd.R_after (ok := (fun k_ => some k_ ≠ (.slice Ao28 y162.length co28 : Value).ownBlock)) (by (with_reducible repeat (first | apply zs | apply zr | apply zt)); first | exact Kd.R_mono HO_3.out (fun _ hk => ⟨hk.2, hk.1⟩) | exact Kd.R_mono HO_3.out (fun k_ hk => by (have own_ : ∀ (A : Option Addr) (n c : Nat), (Value.slice A n c).ownBlock = A.map Addr.block := fun A n c => by cases A <;> rfl); simp only [own_] at hk ⊢; exact ⟨hk.2, hk.1⟩)) hg hat)).2.2) KL21.out))
   have n6_ := zk ((show Kd.C (Kd.int .i64) w27 A22 y168.length y168 from by rw [Ny168.out, KA22.out]; exact Kd.C_drop (m := (t152 : Int).toNat) (c := co18) ((Kd.R_reads' (Kd.R_after (ok := (fun k_ => some k_ ≠ (.slice Ao28 y162.length co28 : Value).ownBlock)) (by (with_reducible repeat (first | apply zs | apply zr | apply zt)); first | exact Kd.R_mono HO_3.out (fun _ hk => ⟨hk.2, hk.1⟩) | exact Kd.R_mono HO_3.out (fun k_ hk => by (have own_ : ∀ (A : Option Addr) (n c : Nat), (Value.slice A n c).ownBlock = A.map Addr.block := fun A n c => by cases A <;> rfl); simp only [own_] at hk ⊢; exact ⟨hk.2, hk.1⟩)) hg hat)).2.2) KL22.out ((Kd.R_reads' (Kd.R_after (ok := (fun k_ => some k_ ≠ (.slice Ao28 y162.length co28 : Value).ownBlock)) (by (with_reducible repeat (first | apply zs | apply zr | apply zt)); first | exact Kd.R_mono HO_3.out (fun _ hk => ⟨hk.2, hk.1⟩) | exact Kd.R_mono HO_3.out (fun k_ hk => by (have own_ : ∀ (A : Option Addr) (n c : Nat), (Value.slice A n c).ownBlock = A.map Addr.block := fun A n c => by cases A <;> rfl); simp only [own_] at hk ⊢; exact ⟨hk.2, hk.1⟩)) hg hat)).2.1)))
   have n7_ := zk (ho)
   clear HO_3
   clear HI0
   clear HO164
   clear HB
   clear HK
   clear HR158
   clear HR171
   clear HO161
   have HO_3 := n0_
   have HI0 := n1_
   have HO164 := n2_
   have HB := n3_
   have HK := n4_
   have HR158 := n5_
   have HR171 := n6_
   have HO167 := n7_
   clear n0_ n1_ n2_ n3_ n4_ n5_ n6_ n7_
   clear ho hb hg hat
   refine hK.out _ _ trivial (fun hHeld => ?_)
   clear hK K
   refine zM 27 ?_
   refine one_ (i := 12) (N := some 31) #[true, true, true, true, true, true, true, true, true, true, true, true, true, false] rfl rfl (one_of HT_.out (by kernel_rfl)) (by decide) (fun K hK => ?_)
   refine Kd.R_append_rows_step (Kd.int .i64) w.heap.size (by rfl) (.tmp 27) (.tmp 30) 22 3 (.int .i64 0) 8 rfl Try.underlying22 info3 rfl (by decide) (by omega) v166 y165 y168 _ _ _ (fun k_ => some k_ ≠ (.slice Ao18 x3_1.length co18 : Value).ownBlock ∧ some k_ ≠ (.slice Ao28 y162.length co28 : Value).ownBlock) (fun _ => False) rfl rfl ?aO ?aR (fun _ _ h => h) (fun _ h => h.elim) ?aF (Below.refl _ _) ?aS ?aL ?_
   (case aR => exact zC HR171.out)
   (case aF => exact (fun k_ hk => ⟨Kd.fresh' (Kd.R_lt (zR HO_3)) k_ hk, Kd.fresh' (Kd.R_lt (zR HO164)) k_ hk⟩))
   (case aO => exact (zR HO167))
   (case aS => exact (keep_size (w := w) (g := g) (row := none) (zK HK)))
   (case aL => have := LMc17.out; omega)
   intro v173 w29 ho hb hg hat
   rw [← Ny172.out] at ho
   have n0_ := zk (Kd.R_after (ok := (fun k_ => some k_ ≠ (.slice Ao28 y162.length co28 : Value).ownBlock)) (zR HO_3) hg hat)
   have n1_ := zk (IsS102.grown (by repeat (first | exact HI0.out | apply IsS102.alloc | apply IsS102.drewN | apply IsS102.drew | apply IsS102.set_1 | apply IsS102.set_2)) hg (IsS102.own_ne HI0.out HO167.out (by decide)))
   have n2_ := zk (Kd.R_after (ok := (fun k_ => some k_ ≠ (.slice Ao18 x3_1.length co18 : Value).ownBlock)) (zR HO164) hg hat)
   have n3_ := zk (below_weaken (zBs HB (IsS102.ge HI0.out)) HL.out hb)
   have n4_ := zk (KeepBut.trans (zK HK) (KeepBut.of_grown hg g) (Kd.R_base2 HO167.out))
   have n5_ := zk ((show Kd.C (Kd.int .i64) w29 Ao18 y155.length y155 from by rw [Ny155.out]; exact Kd.C_take (m := (t152 : Int).toNat) ((Kd.R_reads' (Kd.R_after (ok := (fun k_ => some k_ ≠ (.slice Ao28 y162.length co28 : Value).ownBlock)) (zR HO_3) hg hat)).2.2) KL21.out))
   have n6_ := zk ((show Kd.C (Kd.int .i64) w29 A22 y168.length y168 from by rw [Ny168.out, KA22.out]; exact Kd.C_drop (m := (t152 : Int).toNat) (c := co18) ((Kd.R_reads' (Kd.R_after (ok := (fun k_ => some k_ ≠ (.slice Ao28 y162.length co28 : Value).ownBlock)) (zR HO_3) hg hat)).2.2) KL22.out ((Kd.R_reads' (Kd.R_after (ok := (fun k_ => some k_ ≠ (.slice Ao28 y162.length co28 : Value).ownBlock)) (zR HO_3) hg hat)).2.1)))
   have n7_ := zk (ho)
   clear HO_3
   clear HI0
   clear HO164
   clear HB
   clear HK
   clear HR158
   clear HR171
   clear HO167
   have HO_3 := n0_
   have HI0 := n1_
   have HO164 := n2_
   have HB := n3_
   have HK := n4_
   have HR158 := n5_
   have HR171 := n6_
   have HO174 := n7_
   clear n0_ n1_ n2_ n3_ n4_ n5_ n6_ n7_
   clear ho hb hg hat
   refine hK.out _ _ trivial (fun hHeld => ?_)
   clear hK K
   refine zM 31 ?_
   refine pure_ (i := 13) (N := some 3) (v := ?_) (a' := ?_) #[true, true, true, true, true, true, true, true, true, true, true, true, true, true] rfl rfl (any_of HT_.out (by kernel_rfl)) (fun _ _ _ h => h) (Or.inl ⟨by rfl, ?_⟩) ?_ ?_
   rotate_left
   · intro w'
     go_simp
     with_reducible rfl
   rotate_left
   · exact zQ
   refine done_ (done_of HT_.out (by kernel_rfl)) ?_
   try go_wp2
   go_roundg k1
   case measure => have := HK1.out; omega
   case rel => exact ⟨(y172), (wrap64 (x4_1 - 1)), (t153), (t154), (by first | rfl | (simp; done) | (simp [*]; done)), H', ⟨by have := HK1.out; omega⟩, ⟨by (with_reducible repeat (first | apply zs | apply zr | apply zt)); exact Kd.R_mono HO174.out (fun _ hk => trivial)⟩, ⟨by repeat (first | exact HI0.out | apply IsS102.alloc | apply IsS102.drewN | apply IsS102.drew | apply IsS102.set_1 | apply IsS102.set_2)⟩, ⟨by repeat (first | exact HK.out | apply KeepBut.set_ | apply keep_drewN | apply keep_drew | apply keep_alloc)⟩, ⟨by repeat (first | (with_reducible first | exact HB.out | apply za | apply zd | apply ze | refine below_set ?_ (IsS102.ge HI0.out)) | exact HB.out)⟩⟩

/-! ### spec_l1Cur_pattern3: function 233 -/
def spec_l1Cur_pattern3.f (k : Nat) (s0_0 : List Int) (s0_1 : Int) (s0_2 : Int) : Option (List Int × Int × Int) := (some (([(([2, 3, 1] : List Int)), (([1, 2, 3] : List Int)), (([3, 2, 1] : List Int)), (([1, 3, 2] : List Int)), (([2, 1] : List Int)), (([1, 2] : List Int)), (([2, 1, 3] : List Int)), (([3, 1, 2] : List Int)), (([2, 4, 1, 3] : List Int)), (([1, 3, 2, 4] : List Int)), (([1] : List Int))] : List (List Int)) : List (List Int))).bind fun y227 => ((spec_l1Cur_one.f s0_0 s0_1 s0_2 5).bind fun bt230 => (if bt230.1 = true then ((spec_l1Cur_order.f k s0_0 bt230.2.1 bt230.2.2).bind fun bt233 => (some (bt233.1, bt233.2.1, bt233.2.2))) else ((spec_l1Cur_pick.f s0_0 bt230.2.1 bt230.2.2 (y227.length : Int)).bind fun bt238 => (if 0 ≤ bt238.1 then (if bt238.1 < (y227.length : Int) then ((spec_l1Own.f (rd_L2 y227 bt238.1)).bind fun t242 => (some (t242, bt238.2.1, bt238.2.2))) else (none)) else (none)))))
set_option maxHeartbeats 8000000 in
set_option maxRecDepth 100000 in
theorem spec_l1Cur_pattern3.calls (k : Nat) (g : Nat) (s0_0 : List Int) (s0_1 : Int) (s0_2 : Int) (r1 : List Int) (r2 : Int) (r3 : Int) (w0 w : World) (hI : IsS102 w0 w g s0_0 s0_1 s0_2) (hB : Below w0.heap.size w0 w) (h : spec_l1Cur_pattern3.f k s0_0 s0_1 s0_2 = some (r1, r2, r3)) :
 Calls Try.prog 233 #[.pointer (some ⟨g, 0, none⟩)] w fun e w' => ∃ v0_ : Value, e = .returned (v0_) ∧ Kd.R (Kd.int .i64) 3 w' w.heap.size (fun _ => True) v0_ r1 ∧ IsS102 w0 w' g s0_0 r2 r3 ∧ Below w0.heap.size w0 w' ∧ KeepBut w w' g none := by
 have HI0 := zk hI
 have HK := zk (KeepBut.refl w g none)
 have HL := zk hB.size
 clear hI
 have HW0 := zk hB.size
 have HB := zk hB
 clear hB
 have H := h
 unfold spec_l1Cur_pattern3.f at H
 clear h
 obtain ⟨y194, hy194⟩ : ∃ y_ : List Int, y_ = (([2, 3, 1] : List Int)) := ⟨_, rfl⟩
 rw [← hy194] at H
 try rw [zO y194] at H
 try dsimp only at H
 have Ny194 := zk hy194
 clear hy194
 obtain ⟨y197, hy197⟩ : ∃ y_ : List Int, y_ = (([1, 2, 3] : List Int)) := ⟨_, rfl⟩
 rw [← hy197] at H
 try rw [zO y197] at H
 try dsimp only at H
 have Ny197 := zk hy197
 clear hy197
 obtain ⟨y200, hy200⟩ : ∃ y_ : List Int, y_ = (([3, 2, 1] : List Int)) := ⟨_, rfl⟩
 rw [← hy200] at H
 try rw [zO y200] at H
 try dsimp only at H
 have Ny200 := zk hy200
 clear hy200
 obtain ⟨y203, hy203⟩ : ∃ y_ : List Int, y_ = (([1, 3, 2] : List Int)) := ⟨_, rfl⟩
 rw [← hy203] at H
 try rw [zO y203] at H
 try dsimp only at H
 have Ny203 := zk hy203
 clear hy203
 obtain ⟨y206, hy206⟩ : ∃ y_ : List Int, y_ = (([2, 1] : List Int)) := ⟨_, rfl⟩
 rw [← hy206] at H
 try rw [zO y206] at H
 try dsimp only at H
 have Ny206 := zk hy206
 clear hy206
 obtain ⟨y209, hy209⟩ : ∃ y_ : List Int, y_ = (([1, 2] : List Int)) := ⟨_, rfl⟩
 replace H : ((some (([y194, y197, y200, y203, y206, y209, (([2, 1, 3] : List Int)), (([3, 1, 2] : List Int)), (([2, 4, 1, 3] : List Int)), (([1, 3, 2, 4] : List Int)), (([1] : List Int))] : List (List Int)) : List (List Int))).bind fun y227 => ((spec_l1Cur_one.f s0_0 s0_1 s0_2 5).bind fun bt230 => (if bt230.1 = true then ((spec_l1Cur_order.f k s0_0 bt230.2.1 bt230.2.2).bind fun bt233 => (some (bt233.1, bt233.2.1, bt233.2.2))) else ((spec_l1Cur_pick.f s0_0 bt230.2.1 bt230.2.2 (y227.length : Int)).bind fun bt238 => (if 0 ≤ bt238.1 then (if bt238.1 < (y227.length : Int) then ((spec_l1Own.f (rd_L2 y227 bt238.1)).bind fun t242 => (some (t242, bt238.2.1, bt238.2.2))) else (none)) else (none)))))) = some (r1, r2, r3) := by first | (rw [hy209]; with_reducible exact H) | (have H2_ := (Option.bind_some _ _).symm.trans H; rw [hy209]; with_reducible exact H2_) | (have H2_ := (Option.bind_some _ _).symm.trans H; with_reducible exact H2_) | with_reducible exact H | (rw [hy209]; exact H) | exact H
 have Ny209 := zk hy209
 clear hy209
 obtain ⟨y212, hy212⟩ : ∃ y_ : List Int, y_ = (([2, 1, 3] : List Int)) := ⟨_, rfl⟩
 rw [← hy212] at H
 try rw [zO y212] at H
 try dsimp only at H
 have Ny212 := zk hy212
 clear hy212
 obtain ⟨y215, hy215⟩ : ∃ y_ : List Int, y_ = (([3, 1, 2] : List Int)) := ⟨_, rfl⟩
 rw [← hy215] at H
 try rw [zO y215] at H
 try dsimp only at H
 have Ny215 := zk hy215
 clear hy215
 obtain ⟨y218, hy218⟩ : ∃ y_ : List Int, y_ = (([2, 4, 1, 3] : List Int)) := ⟨_, rfl⟩
 rw [← hy218] at H
 try rw [zO y218] at H
 try dsimp only at H
 have Ny218 := zk hy218
 clear hy218
 obtain ⟨y221, hy221⟩ : ∃ y_ : List Int, y_ = (([1, 3, 2, 4] : List Int)) := ⟨_, rfl⟩
 rw [← hy221] at H
 try rw [zO y221] at H
 try dsimp only at H
 have Ny221 := zk hy221
 clear hy221
 obtain ⟨y224, hy224⟩ : ∃ y_ : List Int, y_ = (([1] : List Int)) := ⟨_, rfl⟩
 rw [← hy224] at H
 try rw [zO y224] at H
 try dsimp only at H
 have Ny224 := zk hy224
 clear hy224
 obtain ⟨y227, hy227⟩ : ∃ y_ : List (List Int), y_ = (([y194, y197, y200, y203, y206, y209, y212, y215, y218, y221, y224] : List (List Int))) := ⟨_, rfl⟩
 rw [← hy227] at H
 try rw [zO y227] at H
 try dsimp only at H
 have Ny227 := zk hy227
 clear hy227
 replace H := Option.bind_eq_some_iff.mp H
 obtain ⟨⟨t230, t231, t232⟩, A20, H⟩ := H
 try dsimp only at H
 have A2 := zk A20
 clear A20
 by_cases c3 : t230 = true
 rotate_left
 · replace c3 := Bool.eq_false_iff.mpr c3
   subst c3
   have H1 : ((spec_l1Cur_pick.f s0_0 t231 t232 (y227.length : Int)).bind fun bt238 => (if 0 ≤ bt238.1 then (if bt238.1 < (y227.length : Int) then ((spec_l1Own.f (rd_L2 y227 bt238.1)).bind fun t242 => (some (t242, bt238.2.1, bt238.2.2))) else (none)) else (none))) = some (r1, r2, r3) := by rw [if_neg (show ¬ (false = true) by decide)] at H; exact H
   clear H
   have H := H1
   clear H1
   replace H := Option.bind_eq_some_iff.mp H
   obtain ⟨⟨t238, t239, t240⟩, A420, H⟩ := H
   try dsimp only at H
   have A42 := zk A420
   clear A420
   by_cases c43 : 0 ≤ t238
   rotate_left
   · rw [if_neg c43] at H
     exact absurd H (by simp)
   rw [if_pos c43] at H
   have c43b0 := decide_eq_true c43
   clear c43
   by_cases c44 : t238 < (y227.length : Int)
   rotate_left
   · rw [if_neg c44] at H
     exact absurd H (by simp)
   rw [if_pos c44] at H
   have c44b0 := decide_eq_true c44
   clear c44
   replace H := Option.bind_eq_some_iff.mp H
   obtain ⟨t242, A450, H⟩ := H
   try dsimp only at H
   have A45 := zk A450
   clear A450
   simp only [Option.some.injEq, Prod.mk.injEq] at H
   obtain ⟨rfl, rfl, rfl⟩ := H
   go_enter Try.func233, Try.ntmps233
   go_wp2_with (first | ((with_reducible refine gate_dst (N := 4) rfl ?_); refine zL 4 3 [2, 3, 1] (Below.refl _ _) (Nat.le_refl _) ?_; intro v195 w46 ho47 hb hg_ hnew_; clear hg_ hnew_; (first | rw [← Ny194.out] at ho47 | (simp only [Int.reduceToNat] at ho47; rw [← Ny194.out] at ho47)); have HO196 := zk (Kd.R_lower ho47 (keep_size (w := w) (g := g) (row := none) (zK HK))); replace HK := zk (KeepBut.trans (zK HK) (KeepBut.of_below hb g none) (.inl rfl)); replace HB := zk (below_step (zBs HB (IsS102.ge HI0.out)) hb); replace HI0 := zk (IsS102.below (by repeat (first | exact HI0.out | apply IsS102.alloc | apply IsS102.drewN | apply IsS102.drew | apply IsS102.set_1 | apply IsS102.set_2)) hb); clear hb ho47) | ((with_reducible refine gate_dst (N := 5) rfl ?_); refine zL 5 3 [1, 2, 3] (Below.refl _ _) (Nat.le_refl _) ?_; intro v198 w48 ho49 hb hg_ hnew_; clear hg_ hnew_; (first | rw [← Ny197.out] at ho49 | (simp only [Int.reduceToNat] at ho49; rw [← Ny197.out] at ho49)); have HO199 := zk (Kd.R_lower (Kd.R_new' ho49 (Kd.R_lt (zR HO196))) (keep_size (w := w) (g := g) (row := none) (zK HK))); replace HO196 := zE HO196 ho49 hb; replace HK := zk (KeepBut.trans (zK HK) (KeepBut.of_below hb g none) (.inl rfl)); replace HB := zk (below_step (zBs HB (IsS102.ge HI0.out)) hb); replace HI0 := zk (IsS102.below (by repeat (first | exact HI0.out | apply IsS102.alloc | apply IsS102.drewN | apply IsS102.drew | apply IsS102.set_1 | apply IsS102.set_2)) hb); clear hb ho49) | ((with_reducible refine gate_dst (N := 6) rfl ?_); refine zL 6 3 [3, 2, 1] (Below.refl _ _) (Nat.le_refl _) ?_; intro v201 w50 ho51 hb hg_ hnew_; clear hg_ hnew_; (first | rw [← Ny200.out] at ho51 | (simp only [Int.reduceToNat] at ho51; rw [← Ny200.out] at ho51)); have HO202 := zk (Kd.R_lower (Kd.R_new' (Kd.R_new' ho51 (Kd.R_lt (zR HO196))) (Kd.R_lt (zR HO199))) (keep_size (w := w) (g := g) (row := none) (zK HK))); replace HO196 := zE HO196 ho51 hb; replace HO199 := zE HO199 ho51 hb; replace HK := zk (KeepBut.trans (zK HK) (KeepBut.of_below hb g none) (.inl rfl)); replace HB := zk (below_step (zBs HB (IsS102.ge HI0.out)) hb); replace HI0 := zk (IsS102.below (by repeat (first | exact HI0.out | apply IsS102.alloc | apply IsS102.drewN | apply IsS102.drew | apply IsS102.set_1 | apply IsS102.set_2)) hb); clear hb ho51) | ((with_reducible refine gate_dst (N := 7) rfl ?_); refine zL 7 3 [1, 3, 2] (Below.refl _ _) (Nat.le_refl _) ?_; intro v204 w52 ho53 hb hg_ hnew_; clear hg_ hnew_; (first | rw [← Ny203.out] at ho53 | (simp only [Int.reduceToNat] at ho53; rw [← Ny203.out] at ho53)); have HO205 := zk (Kd.R_lower (Kd.R_new' (Kd.R_new' (Kd.R_new' ho53 (Kd.R_lt (zR HO196))) (Kd.R_lt (zR HO199))) (Kd.R_lt (zR HO202))) (keep_size (w := w) (g := g) (row := none) (zK HK))); replace HO196 := zE HO196 ho53 hb; replace HO199 := zE HO199 ho53 hb; replace HO202 := zE HO202 ho53 hb; replace HK := zk (KeepBut.trans (zK HK) (KeepBut.of_below hb g none) (.inl rfl)); replace HB := zk (below_step (zBs HB (IsS102.ge HI0.out)) hb); replace HI0 := zk (IsS102.below (by repeat (first | exact HI0.out | apply IsS102.alloc | apply IsS102.drewN | apply IsS102.drew | apply IsS102.set_1 | apply IsS102.set_2)) hb); clear hb ho53) | ((with_reducible refine gate_dst (N := 8) rfl ?_); refine zL 8 3 [2, 1] (Below.refl _ _) (Nat.le_refl _) ?_; intro v207 w54 ho55 hb hg_ hnew_; clear hg_ hnew_; (first | rw [← Ny206.out] at ho55 | (simp only [Int.reduceToNat] at ho55; rw [← Ny206.out] at ho55)); have HO208 := zk (Kd.R_lower (Kd.R_new' (Kd.R_new' (Kd.R_new' (Kd.R_new' ho55 (Kd.R_lt (zR HO196))) (Kd.R_lt (zR HO199))) (Kd.R_lt (zR HO202))) (Kd.R_lt (zR HO205))) (keep_size (w := w) (g := g) (row := none) (zK HK))); replace HO196 := zE HO196 ho55 hb; replace HO199 := zE HO199 ho55 hb; replace HO202 := zE HO202 ho55 hb; replace HO205 := zE HO205 ho55 hb; replace HK := zk (KeepBut.trans (zK HK) (KeepBut.of_below hb g none) (.inl rfl)); replace HB := zk (below_step (zBs HB (IsS102.ge HI0.out)) hb); replace HI0 := zk (IsS102.below (by repeat (first | exact HI0.out | apply IsS102.alloc | apply IsS102.drewN | apply IsS102.drew | apply IsS102.set_1 | apply IsS102.set_2)) hb); clear hb ho55) | ((with_reducible refine gate_dst (N := 9) rfl ?_); refine zL 9 3 [1, 2] (Below.refl _ _) (Nat.le_refl _) ?_; intro v210 w56 ho57 hb hg_ hnew_; clear hg_ hnew_; (first | rw [← Ny209.out] at ho57 | (simp only [Int.reduceToNat] at ho57; rw [← Ny209.out] at ho57)); have HO211 := zk (Kd.R_lower (Kd.R_new' (Kd.R_new' (Kd.R_new' (Kd.R_new' (Kd.R_new' ho57 (Kd.R_lt (zR HO196))) (Kd.R_lt (zR HO199))) (Kd.R_lt (zR HO202))) (Kd.R_lt (zR HO205))) (Kd.R_lt (zR HO208))) (keep_size (w := w) (g := g) (row := none) (zK HK))); replace HO196 := zE HO196 ho57 hb; replace HO199 := zE HO199 ho57 hb; replace HO202 := zE HO202 ho57 hb; replace HO205 := zE HO205 ho57 hb; replace HO208 := zE HO208 ho57 hb; replace HK := zk (KeepBut.trans (zK HK) (KeepBut.of_below hb g none) (.inl rfl)); replace HB := zk (below_step (zBs HB (IsS102.ge HI0.out)) hb); replace HI0 := zk (IsS102.below (by repeat (first | exact HI0.out | apply IsS102.alloc | apply IsS102.drewN | apply IsS102.drew | apply IsS102.set_1 | apply IsS102.set_2)) hb); clear hb ho57) | ((with_reducible refine gate_dst (N := 10) rfl ?_); refine zL 10 3 [2, 1, 3] (Below.refl _ _) (Nat.le_refl _) ?_; intro v213 w58 ho59 hb hg_ hnew_; clear hg_ hnew_; (first | rw [← Ny212.out] at ho59 | (simp only [Int.reduceToNat] at ho59; rw [← Ny212.out] at ho59)); have HO214 := zk (Kd.R_lower (Kd.R_new' (Kd.R_new' (Kd.R_new' (Kd.R_new' (Kd.R_new' (Kd.R_new' ho59 (Kd.R_lt (zR HO196))) (Kd.R_lt (zR HO199))) (Kd.R_lt (zR HO202))) (Kd.R_lt (zR HO205))) (Kd.R_lt (zR HO208))) (Kd.R_lt (zR HO211))) (keep_size (w := w) (g := g) (row := none) (zK HK))); replace HO196 := zE HO196 ho59 hb; replace HO199 := zE HO199 ho59 hb; replace HO202 := zE HO202 ho59 hb; replace HO205 := zE HO205 ho59 hb; replace HO208 := zE HO208 ho59 hb; replace HO211 := zE HO211 ho59 hb; replace HK := zk (KeepBut.trans (zK HK) (KeepBut.of_below hb g none) (.inl rfl)); replace HB := zk (below_step (zBs HB (IsS102.ge HI0.out)) hb); replace HI0 := zk (IsS102.below (by repeat (first | exact HI0.out | apply IsS102.alloc | apply IsS102.drewN | apply IsS102.drew | apply IsS102.set_1 | apply IsS102.set_2)) hb); clear hb ho59) | ((with_reducible refine gate_dst (N := 11) rfl ?_); refine zL 11 3 [3, 1, 2] (Below.refl _ _) (Nat.le_refl _) ?_; intro v216 w60 ho61 hb hg_ hnew_; clear hg_ hnew_; (first | rw [← Ny215.out] at ho61 | (simp only [Int.reduceToNat] at ho61; rw [← Ny215.out] at ho61)); have HO217 := zk (Kd.R_lower (Kd.R_new' (Kd.R_new' (Kd.R_new' (Kd.R_new' (Kd.R_new' (Kd.R_new' (Kd.R_new' ho61 (Kd.R_lt (zR HO196))) (Kd.R_lt (zR HO199))) (Kd.R_lt (zR HO202))) (Kd.R_lt (zR HO205))) (Kd.R_lt (zR HO208))) (Kd.R_lt (zR HO211))) (Kd.R_lt (zR HO214))) (keep_size (w := w) (g := g) (row := none) (zK HK))); replace HO196 := zE HO196 ho61 hb; replace HO199 := zE HO199 ho61 hb; replace HO202 := zE HO202 ho61 hb; replace HO205 := zE HO205 ho61 hb; replace HO208 := zE HO208 ho61 hb; replace HO211 := zE HO211 ho61 hb; replace HO214 := zE HO214 ho61 hb; replace HK := zk (KeepBut.trans (zK HK) (KeepBut.of_below hb g none) (.inl rfl)); replace HB := zk (below_step (zBs HB (IsS102.ge HI0.out)) hb); replace HI0 := zk (IsS102.below (by repeat (first | exact HI0.out | apply IsS102.alloc | apply IsS102.drewN | apply IsS102.drew | apply IsS102.set_1 | apply IsS102.set_2)) hb); clear hb ho61) | ((with_reducible refine gate_dst (N := 12) rfl ?_); refine zL 12 3 [2, 4, 1, 3] (Below.refl _ _) (Nat.le_refl _) ?_; intro v219 w62 ho63 hb hg_ hnew_; clear hg_ hnew_; (first | rw [← Ny218.out] at ho63 | (simp only [Int.reduceToNat] at ho63; rw [← Ny218.out] at ho63)); have HO220 := zk (Kd.R_lower (Kd.R_new' (Kd.R_new' (Kd.R_new' (Kd.R_new' (Kd.R_new' (Kd.R_new' (Kd.R_new' (Kd.R_new' ho63 (Kd.R_lt (zR HO196))) (Kd.R_lt (zR HO199))) (Kd.R_lt (zR HO202))) (Kd.R_lt (zR HO205))) (Kd.R_lt (zR HO208))) (Kd.R_lt (zR HO211))) (Kd.R_lt (zR HO214))) (Kd.R_lt (zR HO217))) (keep_size (w := w) (g := g) (row := none) (zK HK))); replace HO196 := zE HO196 ho63 hb; replace HO199 := zE HO199 ho63 hb; replace HO202 := zE HO202 ho63 hb; replace HO205 := zE HO205 ho63 hb; replace HO208 := zE HO208 ho63 hb; replace HO211 := zE HO211 ho63 hb; replace HO214 := zE HO214 ho63 hb; replace HO217 := zE HO217 ho63 hb; replace HK := zk (KeepBut.trans (zK HK) (KeepBut.of_below hb g none) (.inl rfl)); replace HB := zk (below_step (zBs HB (IsS102.ge HI0.out)) hb); replace HI0 := zk (IsS102.below (by repeat (first | exact HI0.out | apply IsS102.alloc | apply IsS102.drewN | apply IsS102.drew | apply IsS102.set_1 | apply IsS102.set_2)) hb); clear hb ho63) | ((with_reducible refine gate_dst (N := 13) rfl ?_); refine zL 13 3 [1, 3, 2, 4] (Below.refl _ _) (Nat.le_refl _) ?_; intro v222 w64 ho65 hb hg_ hnew_; clear hg_ hnew_; (first | rw [← Ny221.out] at ho65 | (simp only [Int.reduceToNat] at ho65; rw [← Ny221.out] at ho65)); have HO223 := zk (Kd.R_lower (Kd.R_new' (Kd.R_new' (Kd.R_new' (Kd.R_new' (Kd.R_new' (Kd.R_new' (Kd.R_new' (Kd.R_new' (Kd.R_new' ho65 (Kd.R_lt (zR HO196))) (Kd.R_lt (zR HO199))) (Kd.R_lt (zR HO202))) (Kd.R_lt (zR HO205))) (Kd.R_lt (zR HO208))) (Kd.R_lt (zR HO211))) (Kd.R_lt (zR HO214))) (Kd.R_lt (zR HO217))) (Kd.R_lt (zR HO220))) (keep_size (w := w) (g := g) (row := none) (zK HK))); replace HO196 := zE HO196 ho65 hb; replace HO199 := zE HO199 ho65 hb; replace HO202 := zE HO202 ho65 hb; replace HO205 := zE HO205 ho65 hb; replace HO208 := zE HO208 ho65 hb; replace HO211 := zE HO211 ho65 hb; replace HO214 := zE HO214 ho65 hb; replace HO217 := zE HO217 ho65 hb; replace HO220 := zE HO220 ho65 hb; replace HK := zk (KeepBut.trans (zK HK) (KeepBut.of_below hb g none) (.inl rfl)); replace HB := zk (below_step (zBs HB (IsS102.ge HI0.out)) hb); replace HI0 := zk (IsS102.below (by repeat (first | exact HI0.out | apply IsS102.alloc | apply IsS102.drewN | apply IsS102.drew | apply IsS102.set_1 | apply IsS102.set_2)) hb); clear hb ho65) | ((with_reducible refine gate_dst (N := 14) rfl ?_); refine zL 14 3 [1] (Below.refl _ _) (Nat.le_refl _) ?_; intro v225 w66 ho67 hb hg_ hnew_; clear hg_ hnew_; (first | rw [← Ny224.out] at ho67 | (simp only [Int.reduceToNat] at ho67; rw [← Ny224.out] at ho67)); have HO226 := zk (Kd.R_lower (Kd.R_new' (Kd.R_new' (Kd.R_new' (Kd.R_new' (Kd.R_new' (Kd.R_new' (Kd.R_new' (Kd.R_new' (Kd.R_new' (Kd.R_new' ho67 (Kd.R_lt (zR HO196))) (Kd.R_lt (zR HO199))) (Kd.R_lt (zR HO202))) (Kd.R_lt (zR HO205))) (Kd.R_lt (zR HO208))) (Kd.R_lt (zR HO211))) (Kd.R_lt (zR HO214))) (Kd.R_lt (zR HO217))) (Kd.R_lt (zR HO220))) (Kd.R_lt (zR HO223))) (keep_size (w := w) (g := g) (row := none) (zK HK))); replace HO196 := zE HO196 ho67 hb; replace HO199 := zE HO199 ho67 hb; replace HO202 := zE HO202 ho67 hb; replace HO205 := zE HO205 ho67 hb; replace HO208 := zE HO208 ho67 hb; replace HO211 := zE HO211 ho67 hb; replace HO214 := zE HO214 ho67 hb; replace HO217 := zE HO217 ho67 hb; replace HO220 := zE HO220 ho67 hb; replace HO223 := zE HO223 ho67 hb; replace HK := zk (KeepBut.trans (zK HK) (KeepBut.of_below hb g none) (.inl rfl)); replace HB := zk (below_step (zBs HB (IsS102.ge HI0.out)) hb); replace HI0 := zk (IsS102.below (by repeat (first | exact HI0.out | apply IsS102.alloc | apply IsS102.drewN | apply IsS102.drew | apply IsS102.set_1 | apply IsS102.set_2)) hb); clear hb ho67; obtain ⟨Ao68, co68, eo68⟩ := Kd.R_slice HO196.out; subst eo68; obtain ⟨Ao69, co69, eo69⟩ := Kd.R_slice HO199.out; subst eo69; obtain ⟨Ao70, co70, eo70⟩ := Kd.R_slice HO202.out; subst eo70; obtain ⟨Ao71, co71, eo71⟩ := Kd.R_slice HO205.out; subst eo71; obtain ⟨Ao72, co72, eo72⟩ := Kd.R_slice HO208.out; subst eo72; obtain ⟨Ao73, co73, eo73⟩ := Kd.R_slice HO211.out; subst eo73; obtain ⟨Ao74, co74, eo74⟩ := Kd.R_slice HO214.out; subst eo74; obtain ⟨Ao75, co75, eo75⟩ := Kd.R_slice HO217.out; subst eo75; obtain ⟨Ao76, co76, eo76⟩ := Kd.R_slice HO220.out; subst eo76; obtain ⟨Ao77, co77, eo77⟩ := Kd.R_slice HO223.out; subst eo77; obtain ⟨Ao78, co78, eo78⟩ := Kd.R_slice HO226.out; subst eo78) | ((with_reducible refine gate_dst (N := 15) rfl ?_); refine Kd.N_lit (Kd.slice 3 (Kd.int .i64)) _ 22 ?hg (N' := 15) ?hd (xs := ([y194, y197, y200, y203, y206, y209, y212, y215, y218, y221, y224] : List (List Int))) (inner := [.slice Ao68 y194.length co68, .slice Ao69 y197.length co69, .slice Ao70 y200.length co70, .slice Ao71 y203.length co71, .slice Ao72 y206.length co72, .slice Ao73 y209.length co73, .slice Ao74 y212.length co74, .slice Ao75 y215.length co75, .slice Ao76 y218.length co76, .slice Ao77 y221.length co77, .slice Ao78 y224.length co78]) (ok := (fun k_ => k_ ≠ g)) (okp := (fun k_ => k_ ≠ g)) ?hr ?hp (fun _ hk => hk) ((show ∀ k_, w66.heap.size ≤ k_ → (fun k_ => k_ ≠ g) k_ from fun k_ hk => IsS102.fresh (by repeat (first | exact HI0.out | apply IsS102.alloc | apply IsS102.drewN | apply IsS102.drew | apply IsS102.set_1 | apply IsS102.set_2)) k_ hk) _ (Nat.le_refl _)) (Below.refl _ _) (Nat.le_refl _) (by simp) ?_; (case hd => rfl); (case hg => rfl); (case hr => first | (go_simp; done) | (go_simp; rfl)); (case hp => exact (Reps.one (show Kd.FK (Kd.slice 3 (Kd.int .i64)) _ _ y194 [.slice Ao68 y194.length co68] from (Kd.FK_slice_mk (Kd.R_reads' (Kd.R_mono (ok' := (fun k_ => k_ ≠ g)) (IsS102.apart HI0.out (HO196.out) (by decide)) (fun k_ hk => hk.2))).2.1 (Kd.R_F (Kd.R_mono (ok' := (fun k_ => k_ ≠ g)) (IsS102.apart HI0.out (HO196.out) (by decide)) (fun k_ hk => hk.2))))) (Reps.one (show Kd.FK (Kd.slice 3 (Kd.int .i64)) _ _ y197 [.slice Ao69 y197.length co69] from (Kd.FK_slice_mk (Kd.R_reads' (Kd.R_mono (ok' := (fun k_ => k_ ≠ g)) (IsS102.apart HI0.out (HO199.out) (by decide)) (fun k_ hk => hk.2))).2.1 (Kd.R_F (Kd.R_mono (ok' := (fun k_ => k_ ≠ g)) (IsS102.apart HI0.out (HO199.out) (by decide)) (fun k_ hk => hk.2))))) (Reps.one (show Kd.FK (Kd.slice 3 (Kd.int .i64)) _ _ y200 [.slice Ao70 y200.length co70] from (Kd.FK_slice_mk (Kd.R_reads' (Kd.R_mono (ok' := (fun k_ => k_ ≠ g)) (IsS102.apart HI0.out (HO202.out) (by decide)) (fun k_ hk => hk.2))).2.1 (Kd.R_F (Kd.R_mono (ok' := (fun k_ => k_ ≠ g)) (IsS102.apart HI0.out (HO202.out) (by decide)) (fun k_ hk => hk.2))))) (Reps.one (show Kd.FK (Kd.slice 3 (Kd.int .i64)) _ _ y203 [.slice Ao71 y203.length co71] from (Kd.FK_slice_mk (Kd.R_reads' (Kd.R_mono (ok' := (fun k_ => k_ ≠ g)) (IsS102.apart HI0.out (HO205.out) (by decide)) (fun k_ hk => hk.2))).2.1 (Kd.R_F (Kd.R_mono (ok' := (fun k_ => k_ ≠ g)) (IsS102.apart HI0.out (HO205.out) (by decide)) (fun k_ hk => hk.2))))) (Reps.one (show Kd.FK (Kd.slice 3 (Kd.int .i64)) _ _ y206 [.slice Ao72 y206.length co72] from (Kd.FK_slice_mk (Kd.R_reads' (Kd.R_mono (ok' := (fun k_ => k_ ≠ g)) (IsS102.apart HI0.out (HO208.out) (by decide)) (fun k_ hk => hk.2))).2.1 (Kd.R_F (Kd.R_mono (ok' := (fun k_ => k_ ≠ g)) (IsS102.apart HI0.out (HO208.out) (by decide)) (fun k_ hk => hk.2))))) (Reps.one (show Kd.FK (Kd.slice 3 (Kd.int .i64)) _ _ y209 [.slice Ao73 y209.length co73] from (Kd.FK_slice_mk (Kd.R_reads' (Kd.R_mono (ok' := (fun k_ => k_ ≠ g)) (IsS102.apart HI0.out (HO211.out) (by decide)) (fun k_ hk => hk.2))).2.1 (Kd.R_F (Kd.R_mono (ok' := (fun k_ => k_ ≠ g)) (IsS102.apart HI0.out (HO211.out) (by decide)) (fun k_ hk => hk.2))))) (Reps.one (show Kd.FK (Kd.slice 3 (Kd.int .i64)) _ _ y212 [.slice Ao74 y212.length co74] from (Kd.FK_slice_mk (Kd.R_reads' (Kd.R_mono (ok' := (fun k_ => k_ ≠ g)) (IsS102.apart HI0.out (HO214.out) (by decide)) (fun k_ hk => hk.2))).2.1 (Kd.R_F (Kd.R_mono (ok' := (fun k_ => k_ ≠ g)) (IsS102.apart HI0.out (HO214.out) (by decide)) (fun k_ hk => hk.2))))) (Reps.one (show Kd.FK (Kd.slice 3 (Kd.int .i64)) _ _ y215 [.slice Ao75 y215.length co75] from (Kd.FK_slice_mk (Kd.R_reads' (Kd.R_mono (ok' := (fun k_ => k_ ≠ g)) (IsS102.apart HI0.out (HO217.out) (by decide)) (fun k_ hk => hk.2))).2.1 (Kd.R_F (Kd.R_mono (ok' := (fun k_ => k_ ≠ g)) (IsS102.apart HI0.out (HO217.out) (by decide)) (fun k_ hk => hk.2))))) (Reps.one (show Kd.FK (Kd.slice 3 (Kd.int .i64)) _ _ y218 [.slice Ao76 y218.length co76] from (Kd.FK_slice_mk (Kd.R_reads' (Kd.R_mono (ok' := (fun k_ => k_ ≠ g)) (IsS102.apart HI0.out (HO220.out) (by decide)) (fun k_ hk => hk.2))).2.1 (Kd.R_F (Kd.R_mono (ok' := (fun k_ => k_ ≠ g)) (IsS102.apart HI0.out (HO220.out) (by decide)) (fun k_ hk => hk.2))))) (Reps.one (show Kd.FK (Kd.slice 3 (Kd.int .i64)) _ _ y221 [.slice Ao77 y221.length co77] from (Kd.FK_slice_mk (Kd.R_reads' (Kd.R_mono (ok' := (fun k_ => k_ ≠ g)) (IsS102.apart HI0.out (HO223.out) (by decide)) (fun k_ hk => hk.2))).2.1 (Kd.R_F (Kd.R_mono (ok' := (fun k_ => k_ ≠ g)) (IsS102.apart HI0.out (HO223.out) (by decide)) (fun k_ hk => hk.2))))) (Reps.one (show Kd.FK (Kd.slice 3 (Kd.int .i64)) _ _ y224 [.slice Ao78 y224.length co78] from (Kd.FK_slice_mk (Kd.R_reads' (Kd.R_mono (ok' := (fun k_ => k_ ≠ g)) (IsS102.apart HI0.out (HO226.out) (by decide)) (fun k_ hk => hk.2))).2.1 (Kd.R_F (Kd.R_mono (ok' := (fun k_ => k_ ≠ g)) (IsS102.apart HI0.out (HO226.out) (by decide)) (fun k_ hk => hk.2))))) (Reps.none _ _))))))))))))); intro v228 w79 ho80 hb hg_ hnew_; clear hg_ hnew_; (first | rw [← Ny227.out] at ho80 | (simp only [Int.reduceToNat] at ho80; rw [← Ny227.out] at ho80)); have HO229 := zk (Kd.N_lower ho80 (keep_size (w := w) (g := g) (row := none) (zK HK))); replace HK := zk (KeepBut.trans (zK HK) (KeepBut.of_below hb g none) (.inl rfl)); replace HB := zk (below_step (zBs HB (IsS102.ge HI0.out)) hb); replace HI0 := zk (IsS102.below (by repeat (first | exact HI0.out | apply IsS102.alloc | apply IsS102.drewN | apply IsS102.drew | apply IsS102.set_1 | apply IsS102.set_2)) hb); clear HO196 HO199 HO202 HO205 HO208 HO211 HO214 HO217 HO220 HO223 HO226; clear hb ho80) | ((with_reducible refine gate_callee (f := 164) rfl ?_); refine zG (some 17) Try.func164 #[.pointer (some ⟨g, 0, none⟩), .int .i64 5] ?_; (with_reducible refine (spec_l1Cur_one.calls g s0_0 s0_1 s0_2 5 false t231 t232 w0 _ ?side1 ?side2 A2.out).mono ?_); (case side1 => repeat (first | exact HI0.out | apply IsS102.alloc | apply IsS102.drewN | apply IsS102.drew | apply IsS102.set_1 | apply IsS102.set_2)); (case side2 => exact zBs HB (IsS102.ge HI0.out)); rintro e w81 ⟨rfl, hi, hb, hk⟩; refine ⟨_, rfl, ?_⟩; replace HO229 := zk (Kd.N_mono (Kd.N_keep (Kd.N_mono (ok := fun k_ => k_ ≠ g) (zN HO229) (fun k_ hk_ => (⟨hk_, hk_⟩ : _ ∧ k_ ≠ g))) hk (fun _ h => h.2)) (fun _ h => h.1)); replace HK := zk (KeepBut.trans (zK HK) hk (.inl rfl)); replace HB := zk (hb); replace HI0 := zk (hi); (try clear hb); (try clear hb2); (try clear hk); (try clear hi); obtain ⟨Ao82, co82, eo82⟩ := Kd.N_slice HO229.out; subst eo82) | ((with_reducible refine gate_callee (f := 192) rfl ?_); refine zG (some 24) Try.func192 #[.pointer (some ⟨g, 0, none⟩), .int .i64 (y227.length : Int)] ?_; (with_reducible refine (spec_l1Cur_pick.calls g s0_0 t231 t232 (y227.length : Int) t238 t239 t240 w0 _ ?side1 ?side2 A42.out).mono ?_); (case side1 => repeat (first | exact HI0.out | apply IsS102.alloc | apply IsS102.drewN | apply IsS102.drew | apply IsS102.set_1 | apply IsS102.set_2)); (case side2 => exact zBs HB (IsS102.ge HI0.out)); rintro e w83 ⟨rfl, hi, hb, hk⟩; refine ⟨_, rfl, ?_⟩; replace HO229 := zk (Kd.N_mono (Kd.N_keep (Kd.N_mono (ok := fun k_ => k_ ≠ g) (zN HO229) (fun k_ hk_ => (⟨hk_, hk_⟩ : _ ∧ k_ ≠ g))) hk (fun _ h => h.2)) (fun _ h => h.1)); replace HK := zk (KeepBut.trans (zK HK) hk (.inl rfl)); replace HB := zk (hb); replace HI0 := zk (hi); (try clear hb); (try clear hb2); (try clear hk); (try clear hi); have p241 : 0 ≤ (t238 : Int) := zo (by assumption); have q241 : t238 < (y227.length : Int) := zo (by assumption); obtain ⟨ad241, A241_0, c241_0, e241, hx241_0, hl241_0, hi241_0⟩ := at_L2 (Kd.N_reads' HO229.out).2.2 t238 p241 q241; cases e241; obtain ⟨ce241, hce241, hMe241, hcc241⟩ := Kd.N_get HO229.out [] t238 p241 (by first | exact q241 | exact zo (by assumption) | (have e_ := (Kd.N_reads' HO229.out).1; omega)); obtain ⟨ua241_0, uc241_0, rfl, ul241_0, ge241_0⟩ := Kd.FK_slice_open hMe241; have hv241_0 := hcc241 0 _ rfl; rw [Nat.add_zero, show ((Kd.slice 3 (Kd.int .i64))).sz = 1 from rfl, Nat.mul_one] at hv241_0; replace hv241_0 := Option.some.inj (hv241_0.symm.trans hx241_0); injection hv241_0 with hva_ hvn_ hvc_; rw [hva_] at ge241_0; rw [hvc_] at ul241_0; have HL241_0 := zk (show Kd.V (Kd.int .i64) 3 _ w.heap.size _ _ (rd_L2 y227 t238) from Kd.V_mk ul241_0 ge241_0); clear hva_ hvn_ hvc_ ge241_0 ul241_0; clear hcc241 hce241; have HR241_0 := zk hi241_0; have HC241_0 := zk hl241_0; clear hi241_0 hl241_0; replace p241 := eq_true p241; replace q241 := eq_true q241) | ((with_reducible refine gate_callee (f := 169) rfl ?_); refine zG (some 27) Try.func169 #[.slice A241_0 (rd_L2 y227 t238).length c241_0] ?_; (with_reducible refine (spec_l1Own.calls _ _ (rd_L2 y227 t238) t242 _ ?side1 ?side2 A45.out).mono ?_); (case side1 => exact zC HR241_0.out); (case side2 => exact HC241_0.out); rintro e w84 ⟨v243, rfl, ho0, hb⟩; refine ⟨_, rfl, ?_⟩; have HO244 := zk (Kd.R_lower ho0 (keep_size (w := w) (g := g) (row := none) (zK HK))); replace HO229 := zEN HO229 ho0 hb; replace HL241_0 := zk (Kd.V_elder' (zV HL241_0) (Kd.R_base ho0) hb); replace HR241_0 := zk (Kd.C_below (zC HR241_0.out) hb); replace HK := zk (KeepBut.trans (zK HK) (KeepBut.of_below hb g none) (.inl rfl)); replace HB := zk (below_step (zBs HB (IsS102.ge HI0.out)) hb); replace HI0 := zk (IsS102.below (by repeat (first | exact HI0.out | apply IsS102.alloc | apply IsS102.drewN | apply IsS102.drew | apply IsS102.set_1 | apply IsS102.set_2)) hb); (try clear hb ho0)))
   go_ret
   exact ⟨_, by first | rfl | (simp [errW_none, errW_some] <;> rfl) | (simp [*, errW_none, errW_some] <;> rfl), by (with_reducible repeat (first | apply zs | apply zr | apply zt)); exact HO244.out, by repeat (first | exact HI0.out | apply IsS102.alloc | apply IsS102.drewN | apply IsS102.drew | apply IsS102.set_1 | apply IsS102.set_2), by repeat (first | (with_reducible first | exact HB.out | apply za | apply zd | apply ze | refine below_set ?_ (IsS102.ge HI0.out)) | exact HB.out), by repeat (first | exact HK.out | apply KeepBut.set_ | apply keep_drewN | apply keep_drew | apply keep_alloc)⟩
 subst c3
 have H1 : ((spec_l1Cur_order.f k s0_0 t231 t232).bind fun bt233 => (some (bt233.1, bt233.2.1, bt233.2.2))) = some (r1, r2, r3) := by rw [if_pos rfl] at H; exact H
 clear H
 have H := H1
 clear H1
 replace H := Option.bind_eq_some_iff.mp H
 obtain ⟨⟨t233, t236, t237⟩, A40, H⟩ := H
 try dsimp only at H
 have A4 := zk A40
 clear A40
 simp only [Option.some.injEq, Prod.mk.injEq] at H
 obtain ⟨rfl, rfl, rfl⟩ := H
 go_enter Try.func233, Try.ntmps233
 go_wp2_with (first | ((with_reducible refine gate_dst (N := 4) rfl ?_); refine zL 4 3 [2, 3, 1] (Below.refl _ _) (Nat.le_refl _) ?_; intro v195 w5 ho6 hb hg_ hnew_; clear hg_ hnew_; (first | rw [← Ny194.out] at ho6 | (simp only [Int.reduceToNat] at ho6; rw [← Ny194.out] at ho6)); have HO196 := zk (Kd.R_lower ho6 (keep_size (w := w) (g := g) (row := none) (zK HK))); replace HK := zk (KeepBut.trans (zK HK) (KeepBut.of_below hb g none) (.inl rfl)); replace HB := zk (below_step (zBs HB (IsS102.ge HI0.out)) hb); replace HI0 := zk (IsS102.below (by repeat (first | exact HI0.out | apply IsS102.alloc | apply IsS102.drewN | apply IsS102.drew | apply IsS102.set_1 | apply IsS102.set_2)) hb); clear hb ho6) | ((with_reducible refine gate_dst (N := 5) rfl ?_); refine zL 5 3 [1, 2, 3] (Below.refl _ _) (Nat.le_refl _) ?_; intro v198 w7 ho8 hb hg_ hnew_; clear hg_ hnew_; (first | rw [← Ny197.out] at ho8 | (simp only [Int.reduceToNat] at ho8; rw [← Ny197.out] at ho8)); have HO199 := zk (Kd.R_lower (Kd.R_new' ho8 (Kd.R_lt (zR HO196))) (keep_size (w := w) (g := g) (row := none) (zK HK))); replace HO196 := zE HO196 ho8 hb; replace HK := zk (KeepBut.trans (zK HK) (KeepBut.of_below hb g none) (.inl rfl)); replace HB := zk (below_step (zBs HB (IsS102.ge HI0.out)) hb); replace HI0 := zk (IsS102.below (by repeat (first | exact HI0.out | apply IsS102.alloc | apply IsS102.drewN | apply IsS102.drew | apply IsS102.set_1 | apply IsS102.set_2)) hb); clear hb ho8) | ((with_reducible refine gate_dst (N := 6) rfl ?_); refine zL 6 3 [3, 2, 1] (Below.refl _ _) (Nat.le_refl _) ?_; intro v201 w9 ho10 hb hg_ hnew_; clear hg_ hnew_; (first | rw [← Ny200.out] at ho10 | (simp only [Int.reduceToNat] at ho10; rw [← Ny200.out] at ho10)); have HO202 := zk (Kd.R_lower (Kd.R_new' (Kd.R_new' ho10 (Kd.R_lt (zR HO196))) (Kd.R_lt (zR HO199))) (keep_size (w := w) (g := g) (row := none) (zK HK))); replace HO196 := zE HO196 ho10 hb; replace HO199 := zE HO199 ho10 hb; replace HK := zk (KeepBut.trans (zK HK) (KeepBut.of_below hb g none) (.inl rfl)); replace HB := zk (below_step (zBs HB (IsS102.ge HI0.out)) hb); replace HI0 := zk (IsS102.below (by repeat (first | exact HI0.out | apply IsS102.alloc | apply IsS102.drewN | apply IsS102.drew | apply IsS102.set_1 | apply IsS102.set_2)) hb); clear hb ho10) | ((with_reducible refine gate_dst (N := 7) rfl ?_); refine zL 7 3 [1, 3, 2] (Below.refl _ _) (Nat.le_refl _) ?_; intro v204 w11 ho12 hb hg_ hnew_; clear hg_ hnew_; (first | rw [← Ny203.out] at ho12 | (simp only [Int.reduceToNat] at ho12; rw [← Ny203.out] at ho12)); have HO205 := zk (Kd.R_lower (Kd.R_new' (Kd.R_new' (Kd.R_new' ho12 (Kd.R_lt (zR HO196))) (Kd.R_lt (zR HO199))) (Kd.R_lt (zR HO202))) (keep_size (w := w) (g := g) (row := none) (zK HK))); replace HO196 := zE HO196 ho12 hb; replace HO199 := zE HO199 ho12 hb; replace HO202 := zE HO202 ho12 hb; replace HK := zk (KeepBut.trans (zK HK) (KeepBut.of_below hb g none) (.inl rfl)); replace HB := zk (below_step (zBs HB (IsS102.ge HI0.out)) hb); replace HI0 := zk (IsS102.below (by repeat (first | exact HI0.out | apply IsS102.alloc | apply IsS102.drewN | apply IsS102.drew | apply IsS102.set_1 | apply IsS102.set_2)) hb); clear hb ho12) | ((with_reducible refine gate_dst (N := 8) rfl ?_); refine zL 8 3 [2, 1] (Below.refl _ _) (Nat.le_refl _) ?_; intro v207 w13 ho14 hb hg_ hnew_; clear hg_ hnew_; (first | rw [← Ny206.out] at ho14 | (simp only [Int.reduceToNat] at ho14; rw [← Ny206.out] at ho14)); have HO208 := zk (Kd.R_lower (Kd.R_new' (Kd.R_new' (Kd.R_new' (Kd.R_new' ho14 (Kd.R_lt (zR HO196))) (Kd.R_lt (zR HO199))) (Kd.R_lt (zR HO202))) (Kd.R_lt (zR HO205))) (keep_size (w := w) (g := g) (row := none) (zK HK))); replace HO196 := zE HO196 ho14 hb; replace HO199 := zE HO199 ho14 hb; replace HO202 := zE HO202 ho14 hb; replace HO205 := zE HO205 ho14 hb; replace HK := zk (KeepBut.trans (zK HK) (KeepBut.of_below hb g none) (.inl rfl)); replace HB := zk (below_step (zBs HB (IsS102.ge HI0.out)) hb); replace HI0 := zk (IsS102.below (by repeat (first | exact HI0.out | apply IsS102.alloc | apply IsS102.drewN | apply IsS102.drew | apply IsS102.set_1 | apply IsS102.set_2)) hb); clear hb ho14) | ((with_reducible refine gate_dst (N := 9) rfl ?_); refine zL 9 3 [1, 2] (Below.refl _ _) (Nat.le_refl _) ?_; intro v210 w15 ho16 hb hg_ hnew_; clear hg_ hnew_; (first | rw [← Ny209.out] at ho16 | (simp only [Int.reduceToNat] at ho16; rw [← Ny209.out] at ho16)); have HO211 := zk (Kd.R_lower (Kd.R_new' (Kd.R_new' (Kd.R_new' (Kd.R_new' (Kd.R_new' ho16 (Kd.R_lt (zR HO196))) (Kd.R_lt (zR HO199))) (Kd.R_lt (zR HO202))) (Kd.R_lt (zR HO205))) (Kd.R_lt (zR HO208))) (keep_size (w := w) (g := g) (row := none) (zK HK))); replace HO196 := zE HO196 ho16 hb; replace HO199 := zE HO199 ho16 hb; replace HO202 := zE HO202 ho16 hb; replace HO205 := zE HO205 ho16 hb; replace HO208 := zE HO208 ho16 hb; replace HK := zk (KeepBut.trans (zK HK) (KeepBut.of_below hb g none) (.inl rfl)); replace HB := zk (below_step (zBs HB (IsS102.ge HI0.out)) hb); replace HI0 := zk (IsS102.below (by repeat (first | exact HI0.out | apply IsS102.alloc | apply IsS102.drewN | apply IsS102.drew | apply IsS102.set_1 | apply IsS102.set_2)) hb); clear hb ho16) | ((with_reducible refine gate_dst (N := 10) rfl ?_); refine zL 10 3 [2, 1, 3] (Below.refl _ _) (Nat.le_refl _) ?_; intro v213 w17 ho18 hb hg_ hnew_; clear hg_ hnew_; (first | rw [← Ny212.out] at ho18 | (simp only [Int.reduceToNat] at ho18; rw [← Ny212.out] at ho18)); have HO214 := zk (Kd.R_lower (Kd.R_new' (Kd.R_new' (Kd.R_new' (Kd.R_new' (Kd.R_new' (Kd.R_new' ho18 (Kd.R_lt (zR HO196))) (Kd.R_lt (zR HO199))) (Kd.R_lt (zR HO202))) (Kd.R_lt (zR HO205))) (Kd.R_lt (zR HO208))) (Kd.R_lt (zR HO211))) (keep_size (w := w) (g := g) (row := none) (zK HK))); replace HO196 := zE HO196 ho18 hb; replace HO199 := zE HO199 ho18 hb; replace HO202 := zE HO202 ho18 hb; replace HO205 := zE HO205 ho18 hb; replace HO208 := zE HO208 ho18 hb; replace HO211 := zE HO211 ho18 hb; replace HK := zk (KeepBut.trans (zK HK) (KeepBut.of_below hb g none) (.inl rfl)); replace HB := zk (below_step (zBs HB (IsS102.ge HI0.out)) hb); replace HI0 := zk (IsS102.below (by repeat (first | exact HI0.out | apply IsS102.alloc | apply IsS102.drewN | apply IsS102.drew | apply IsS102.set_1 | apply IsS102.set_2)) hb); clear hb ho18) | ((with_reducible refine gate_dst (N := 11) rfl ?_); refine zL 11 3 [3, 1, 2] (Below.refl _ _) (Nat.le_refl _) ?_; intro v216 w19 ho20 hb hg_ hnew_; clear hg_ hnew_; (first | rw [← Ny215.out] at ho20 | (simp only [Int.reduceToNat] at ho20; rw [← Ny215.out] at ho20)); have HO217 := zk (Kd.R_lower (Kd.R_new' (Kd.R_new' (Kd.R_new' (Kd.R_new' (Kd.R_new' (Kd.R_new' (Kd.R_new' ho20 (Kd.R_lt (zR HO196))) (Kd.R_lt (zR HO199))) (Kd.R_lt (zR HO202))) (Kd.R_lt (zR HO205))) (Kd.R_lt (zR HO208))) (Kd.R_lt (zR HO211))) (Kd.R_lt (zR HO214))) (keep_size (w := w) (g := g) (row := none) (zK HK))); replace HO196 := zE HO196 ho20 hb; replace HO199 := zE HO199 ho20 hb; replace HO202 := zE HO202 ho20 hb; replace HO205 := zE HO205 ho20 hb; replace HO208 := zE HO208 ho20 hb; replace HO211 := zE HO211 ho20 hb; replace HO214 := zE HO214 ho20 hb; replace HK := zk (KeepBut.trans (zK HK) (KeepBut.of_below hb g none) (.inl rfl)); replace HB := zk (below_step (zBs HB (IsS102.ge HI0.out)) hb); replace HI0 := zk (IsS102.below (by repeat (first | exact HI0.out | apply IsS102.alloc | apply IsS102.drewN | apply IsS102.drew | apply IsS102.set_1 | apply IsS102.set_2)) hb); clear hb ho20) | ((with_reducible refine gate_dst (N := 12) rfl ?_); refine zL 12 3 [2, 4, 1, 3] (Below.refl _ _) (Nat.le_refl _) ?_; intro v219 w21 ho22 hb hg_ hnew_; clear hg_ hnew_; (first | rw [← Ny218.out] at ho22 | (simp only [Int.reduceToNat] at ho22; rw [← Ny218.out] at ho22)); have HO220 := zk (Kd.R_lower (Kd.R_new' (Kd.R_new' (Kd.R_new' (Kd.R_new' (Kd.R_new' (Kd.R_new' (Kd.R_new' (Kd.R_new' ho22 (Kd.R_lt (zR HO196))) (Kd.R_lt (zR HO199))) (Kd.R_lt (zR HO202))) (Kd.R_lt (zR HO205))) (Kd.R_lt (zR HO208))) (Kd.R_lt (zR HO211))) (Kd.R_lt (zR HO214))) (Kd.R_lt (zR HO217))) (keep_size (w := w) (g := g) (row := none) (zK HK))); replace HO196 := zE HO196 ho22 hb; replace HO199 := zE HO199 ho22 hb; replace HO202 := zE HO202 ho22 hb; replace HO205 := zE HO205 ho22 hb; replace HO208 := zE HO208 ho22 hb; replace HO211 := zE HO211 ho22 hb; replace HO214 := zE HO214 ho22 hb; replace HO217 := zE HO217 ho22 hb; replace HK := zk (KeepBut.trans (zK HK) (KeepBut.of_below hb g none) (.inl rfl)); replace HB := zk (below_step (zBs HB (IsS102.ge HI0.out)) hb); replace HI0 := zk (IsS102.below (by repeat (first | exact HI0.out | apply IsS102.alloc | apply IsS102.drewN | apply IsS102.drew | apply IsS102.set_1 | apply IsS102.set_2)) hb); clear hb ho22) | ((with_reducible refine gate_dst (N := 13) rfl ?_); refine zL 13 3 [1, 3, 2, 4] (Below.refl _ _) (Nat.le_refl _) ?_; intro v222 w23 ho24 hb hg_ hnew_; clear hg_ hnew_; (first | rw [← Ny221.out] at ho24 | (simp only [Int.reduceToNat] at ho24; rw [← Ny221.out] at ho24)); have HO223 := zk (Kd.R_lower (Kd.R_new' (Kd.R_new' (Kd.R_new' (Kd.R_new' (Kd.R_new' (Kd.R_new' (Kd.R_new' (Kd.R_new' (Kd.R_new' ho24 (Kd.R_lt (zR HO196))) (Kd.R_lt (zR HO199))) (Kd.R_lt (zR HO202))) (Kd.R_lt (zR HO205))) (Kd.R_lt (zR HO208))) (Kd.R_lt (zR HO211))) (Kd.R_lt (zR HO214))) (Kd.R_lt (zR HO217))) (Kd.R_lt (zR HO220))) (keep_size (w := w) (g := g) (row := none) (zK HK))); replace HO196 := zE HO196 ho24 hb; replace HO199 := zE HO199 ho24 hb; replace HO202 := zE HO202 ho24 hb; replace HO205 := zE HO205 ho24 hb; replace HO208 := zE HO208 ho24 hb; replace HO211 := zE HO211 ho24 hb; replace HO214 := zE HO214 ho24 hb; replace HO217 := zE HO217 ho24 hb; replace HO220 := zE HO220 ho24 hb; replace HK := zk (KeepBut.trans (zK HK) (KeepBut.of_below hb g none) (.inl rfl)); replace HB := zk (below_step (zBs HB (IsS102.ge HI0.out)) hb); replace HI0 := zk (IsS102.below (by repeat (first | exact HI0.out | apply IsS102.alloc | apply IsS102.drewN | apply IsS102.drew | apply IsS102.set_1 | apply IsS102.set_2)) hb); clear hb ho24) | ((with_reducible refine gate_dst (N := 14) rfl ?_); refine zL 14 3 [1] (Below.refl _ _) (Nat.le_refl _) ?_; intro v225 w25 ho26 hb hg_ hnew_; clear hg_ hnew_; (first | rw [← Ny224.out] at ho26 | (simp only [Int.reduceToNat] at ho26; rw [← Ny224.out] at ho26)); have HO226 := zk (Kd.R_lower (Kd.R_new' (Kd.R_new' (Kd.R_new' (Kd.R_new' (Kd.R_new' (Kd.R_new' (Kd.R_new' (Kd.R_new' (Kd.R_new' (Kd.R_new' ho26 (Kd.R_lt (zR HO196))) (Kd.R_lt (zR HO199))) (Kd.R_lt (zR HO202))) (Kd.R_lt (zR HO205))) (Kd.R_lt (zR HO208))) (Kd.R_lt (zR HO211))) (Kd.R_lt (zR HO214))) (Kd.R_lt (zR HO217))) (Kd.R_lt (zR HO220))) (Kd.R_lt (zR HO223))) (keep_size (w := w) (g := g) (row := none) (zK HK))); replace HO196 := zE HO196 ho26 hb; replace HO199 := zE HO199 ho26 hb; replace HO202 := zE HO202 ho26 hb; replace HO205 := zE HO205 ho26 hb; replace HO208 := zE HO208 ho26 hb; replace HO211 := zE HO211 ho26 hb; replace HO214 := zE HO214 ho26 hb; replace HO217 := zE HO217 ho26 hb; replace HO220 := zE HO220 ho26 hb; replace HO223 := zE HO223 ho26 hb; replace HK := zk (KeepBut.trans (zK HK) (KeepBut.of_below hb g none) (.inl rfl)); replace HB := zk (below_step (zBs HB (IsS102.ge HI0.out)) hb); replace HI0 := zk (IsS102.below (by repeat (first | exact HI0.out | apply IsS102.alloc | apply IsS102.drewN | apply IsS102.drew | apply IsS102.set_1 | apply IsS102.set_2)) hb); clear hb ho26; obtain ⟨Ao27, co27, eo27⟩ := Kd.R_slice HO196.out; subst eo27; obtain ⟨Ao28, co28, eo28⟩ := Kd.R_slice HO199.out; subst eo28; obtain ⟨Ao29, co29, eo29⟩ := Kd.R_slice HO202.out; subst eo29; obtain ⟨Ao30, co30, eo30⟩ := Kd.R_slice HO205.out; subst eo30; obtain ⟨Ao31, co31, eo31⟩ := Kd.R_slice HO208.out; subst eo31; obtain ⟨Ao32, co32, eo32⟩ := Kd.R_slice HO211.out; subst eo32; obtain ⟨Ao33, co33, eo33⟩ := Kd.R_slice HO214.out; subst eo33; obtain ⟨Ao34, co34, eo34⟩ := Kd.R_slice HO217.out; subst eo34; obtain ⟨Ao35, co35, eo35⟩ := Kd.R_slice HO220.out; subst eo35; obtain ⟨Ao36, co36, eo36⟩ := Kd.R_slice HO223.out; subst eo36; obtain ⟨Ao37, co37, eo37⟩ := Kd.R_slice HO226.out; subst eo37) | ((with_reducible refine gate_dst (N := 15) rfl ?_); refine Kd.N_lit (Kd.slice 3 (Kd.int .i64)) _ 22 ?hg (N' := 15) ?hd (xs := ([y194, y197, y200, y203, y206, y209, y212, y215, y218, y221, y224] : List (List Int))) (inner := [.slice Ao27 y194.length co27, .slice Ao28 y197.length co28, .slice Ao29 y200.length co29, .slice Ao30 y203.length co30, .slice Ao31 y206.length co31, .slice Ao32 y209.length co32, .slice Ao33 y212.length co33, .slice Ao34 y215.length co34, .slice Ao35 y218.length co35, .slice Ao36 y221.length co36, .slice Ao37 y224.length co37]) (ok := (fun k_ => k_ ≠ g)) (okp := (fun k_ => k_ ≠ g)) ?hr ?hp (fun _ hk => hk) ((show ∀ k_, w25.heap.size ≤ k_ → (fun k_ => k_ ≠ g) k_ from fun k_ hk => IsS102.fresh (by repeat (first | exact HI0.out | apply IsS102.alloc | apply IsS102.drewN | apply IsS102.drew | apply IsS102.set_1 | apply IsS102.set_2)) k_ hk) _ (Nat.le_refl _)) (Below.refl _ _) (Nat.le_refl _) (by simp) ?_; (case hd => rfl); (case hg => rfl); (case hr => first | (go_simp; done) | (go_simp; rfl)); (case hp => exact (Reps.one (show Kd.FK (Kd.slice 3 (Kd.int .i64)) _ _ y194 [.slice Ao27 y194.length co27] from (Kd.FK_slice_mk (Kd.R_reads' (Kd.R_mono (ok' := (fun k_ => k_ ≠ g)) (IsS102.apart HI0.out (HO196.out) (by decide)) (fun k_ hk => hk.2))).2.1 (Kd.R_F (Kd.R_mono (ok' := (fun k_ => k_ ≠ g)) (IsS102.apart HI0.out (HO196.out) (by decide)) (fun k_ hk => hk.2))))) (Reps.one (show Kd.FK (Kd.slice 3 (Kd.int .i64)) _ _ y197 [.slice Ao28 y197.length co28] from (Kd.FK_slice_mk (Kd.R_reads' (Kd.R_mono (ok' := (fun k_ => k_ ≠ g)) (IsS102.apart HI0.out (HO199.out) (by decide)) (fun k_ hk => hk.2))).2.1 (Kd.R_F (Kd.R_mono (ok' := (fun k_ => k_ ≠ g)) (IsS102.apart HI0.out (HO199.out) (by decide)) (fun k_ hk => hk.2))))) (Reps.one (show Kd.FK (Kd.slice 3 (Kd.int .i64)) _ _ y200 [.slice Ao29 y200.length co29] from (Kd.FK_slice_mk (Kd.R_reads' (Kd.R_mono (ok' := (fun k_ => k_ ≠ g)) (IsS102.apart HI0.out (HO202.out) (by decide)) (fun k_ hk => hk.2))).2.1 (Kd.R_F (Kd.R_mono (ok' := (fun k_ => k_ ≠ g)) (IsS102.apart HI0.out (HO202.out) (by decide)) (fun k_ hk => hk.2))))) (Reps.one (show Kd.FK (Kd.slice 3 (Kd.int .i64)) _ _ y203 [.slice Ao30 y203.length co30] from (Kd.FK_slice_mk (Kd.R_reads' (Kd.R_mono (ok' := (fun k_ => k_ ≠ g)) (IsS102.apart HI0.out (HO205.out) (by decide)) (fun k_ hk => hk.2))).2.1 (Kd.R_F (Kd.R_mono (ok' := (fun k_ => k_ ≠ g)) (IsS102.apart HI0.out (HO205.out) (by decide)) (fun k_ hk => hk.2))))) (Reps.one (show Kd.FK (Kd.slice 3 (Kd.int .i64)) _ _ y206 [.slice Ao31 y206.length co31] from (Kd.FK_slice_mk (Kd.R_reads' (Kd.R_mono (ok' := (fun k_ => k_ ≠ g)) (IsS102.apart HI0.out (HO208.out) (by decide)) (fun k_ hk => hk.2))).2.1 (Kd.R_F (Kd.R_mono (ok' := (fun k_ => k_ ≠ g)) (IsS102.apart HI0.out (HO208.out) (by decide)) (fun k_ hk => hk.2))))) (Reps.one (show Kd.FK (Kd.slice 3 (Kd.int .i64)) _ _ y209 [.slice Ao32 y209.length co32] from (Kd.FK_slice_mk (Kd.R_reads' (Kd.R_mono (ok' := (fun k_ => k_ ≠ g)) (IsS102.apart HI0.out (HO211.out) (by decide)) (fun k_ hk => hk.2))).2.1 (Kd.R_F (Kd.R_mono (ok' := (fun k_ => k_ ≠ g)) (IsS102.apart HI0.out (HO211.out) (by decide)) (fun k_ hk => hk.2))))) (Reps.one (show Kd.FK (Kd.slice 3 (Kd.int .i64)) _ _ y212 [.slice Ao33 y212.length co33] from (Kd.FK_slice_mk (Kd.R_reads' (Kd.R_mono (ok' := (fun k_ => k_ ≠ g)) (IsS102.apart HI0.out (HO214.out) (by decide)) (fun k_ hk => hk.2))).2.1 (Kd.R_F (Kd.R_mono (ok' := (fun k_ => k_ ≠ g)) (IsS102.apart HI0.out (HO214.out) (by decide)) (fun k_ hk => hk.2))))) (Reps.one (show Kd.FK (Kd.slice 3 (Kd.int .i64)) _ _ y215 [.slice Ao34 y215.length co34] from (Kd.FK_slice_mk (Kd.R_reads' (Kd.R_mono (ok' := (fun k_ => k_ ≠ g)) (IsS102.apart HI0.out (HO217.out) (by decide)) (fun k_ hk => hk.2))).2.1 (Kd.R_F (Kd.R_mono (ok' := (fun k_ => k_ ≠ g)) (IsS102.apart HI0.out (HO217.out) (by decide)) (fun k_ hk => hk.2))))) (Reps.one (show Kd.FK (Kd.slice 3 (Kd.int .i64)) _ _ y218 [.slice Ao35 y218.length co35] from (Kd.FK_slice_mk (Kd.R_reads' (Kd.R_mono (ok' := (fun k_ => k_ ≠ g)) (IsS102.apart HI0.out (HO220.out) (by decide)) (fun k_ hk => hk.2))).2.1 (Kd.R_F (Kd.R_mono (ok' := (fun k_ => k_ ≠ g)) (IsS102.apart HI0.out (HO220.out) (by decide)) (fun k_ hk => hk.2))))) (Reps.one (show Kd.FK (Kd.slice 3 (Kd.int .i64)) _ _ y221 [.slice Ao36 y221.length co36] from (Kd.FK_slice_mk (Kd.R_reads' (Kd.R_mono (ok' := (fun k_ => k_ ≠ g)) (IsS102.apart HI0.out (HO223.out) (by decide)) (fun k_ hk => hk.2))).2.1 (Kd.R_F (Kd.R_mono (ok' := (fun k_ => k_ ≠ g)) (IsS102.apart HI0.out (HO223.out) (by decide)) (fun k_ hk => hk.2))))) (Reps.one (show Kd.FK (Kd.slice 3 (Kd.int .i64)) _ _ y224 [.slice Ao37 y224.length co37] from (Kd.FK_slice_mk (Kd.R_reads' (Kd.R_mono (ok' := (fun k_ => k_ ≠ g)) (IsS102.apart HI0.out (HO226.out) (by decide)) (fun k_ hk => hk.2))).2.1 (Kd.R_F (Kd.R_mono (ok' := (fun k_ => k_ ≠ g)) (IsS102.apart HI0.out (HO226.out) (by decide)) (fun k_ hk => hk.2))))) (Reps.none _ _))))))))))))); intro v228 w38 ho39 hb hg_ hnew_; clear hg_ hnew_; (first | rw [← Ny227.out] at ho39 | (simp only [Int.reduceToNat] at ho39; rw [← Ny227.out] at ho39)); have HO229 := zk (Kd.N_lower ho39 (keep_size (w := w) (g := g) (row := none) (zK HK))); replace HK := zk (KeepBut.trans (zK HK) (KeepBut.of_below hb g none) (.inl rfl)); replace HB := zk (below_step (zBs HB (IsS102.ge HI0.out)) hb); replace HI0 := zk (IsS102.below (by repeat (first | exact HI0.out | apply IsS102.alloc | apply IsS102.drewN | apply IsS102.drew | apply IsS102.set_1 | apply IsS102.set_2)) hb); clear HO196 HO199 HO202 HO205 HO208 HO211 HO214 HO217 HO220 HO223 HO226; clear hb ho39) | ((with_reducible refine gate_callee (f := 164) rfl ?_); refine zG (some 17) Try.func164 #[.pointer (some ⟨g, 0, none⟩), .int .i64 5] ?_; (with_reducible refine (spec_l1Cur_one.calls g s0_0 s0_1 s0_2 5 true t231 t232 w0 _ ?side1 ?side2 A2.out).mono ?_); (case side1 => repeat (first | exact HI0.out | apply IsS102.alloc | apply IsS102.drewN | apply IsS102.drew | apply IsS102.set_1 | apply IsS102.set_2)); (case side2 => exact zBs HB (IsS102.ge HI0.out)); rintro e w40 ⟨rfl, hi, hb, hk⟩; refine ⟨_, rfl, ?_⟩; replace HO229 := zk (Kd.N_mono (Kd.N_keep (Kd.N_mono (ok := fun k_ => k_ ≠ g) (zN HO229) (fun k_ hk_ => (⟨hk_, hk_⟩ : _ ∧ k_ ≠ g))) hk (fun _ h => h.2)) (fun _ h => h.1)); replace HK := zk (KeepBut.trans (zK HK) hk (.inl rfl)); replace HB := zk (hb); replace HI0 := zk (hi); (try clear hb); (try clear hb2); (try clear hk); (try clear hi)) | ((with_reducible refine gate_callee (f := 166) rfl ?_); refine zG (some 19) Try.func166 #[.pointer (some ⟨g, 0, none⟩)] ?_; (with_reducible refine (spec_l1Cur_order.calls k g s0_0 t231 t232 t233 t236 t237 w0 _ ?side1 ?side2 A4.out).mono ?_); (case side1 => repeat (first | exact HI0.out | apply IsS102.alloc | apply IsS102.drewN | apply IsS102.drew | apply IsS102.set_1 | apply IsS102.set_2)); (case side2 => exact zBs HB (IsS102.ge HI0.out)); rintro e w41 ⟨v234, rfl, ho0, hi, hb, hk⟩; refine ⟨_, rfl, ?_⟩; have HO235 := zk (Kd.R_lower ho0 (keep_size (w := w) (g := g) (row := none) (zK HK))); replace HO229 := zk (Kd.N_mono (Kd.N_told (Kd.N_oldK (Kd.N_mono (ok := fun k_ => k_ ≠ g) (zN HO229) (fun k_ hk_ => (⟨hk_, hk_⟩ : _ ∧ k_ ≠ g))) hk) (Kd.R_base ho0)) (fun _ h_ => h_.1)); replace HK := zk (KeepBut.trans (zK HK) hk (.inl rfl)); replace HB := zk (hb); replace HI0 := zk (hi); (try clear hb hk hi ho0)))
 go_ret
 exact ⟨_, by first | rfl | (simp [errW_none, errW_some] <;> rfl) | (simp [*, errW_none, errW_some] <;> rfl), by (with_reducible repeat (first | apply zs | apply zr | apply zt)); exact HO235.out, by repeat (first | exact HI0.out | apply IsS102.alloc | apply IsS102.drewN | apply IsS102.drew | apply IsS102.set_1 | apply IsS102.set_2), by repeat (first | (with_reducible first | exact HB.out | apply za | apply zd | apply ze | refine below_set ?_ (IsS102.ge HI0.out)) | exact HB.out), by repeat (first | exact HK.out | apply KeepBut.set_ | apply keep_drewN | apply keep_drew | apply keep_alloc)⟩

end Go.Proofs.Ytlkddcabjcejdaa.MFnAvoiding
