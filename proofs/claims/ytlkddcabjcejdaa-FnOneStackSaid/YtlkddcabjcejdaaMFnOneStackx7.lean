/- The functions that FnOneStack comes to, with a walk for each. Made by this session's own program (wip/tools/mk.py), in the form of the kit's print; walks named in NOTES.md were written by hand. -/
import Derived.Test.YtlkddcabjcejdaaMFnOneStackx0
import Derived.Test.YtlkddcabjcejdaaMFnOneStackx6
namespace Go.Proofs.Ytlkddcabjcejdaa.MFnOneStack
open Go.RowKit Go.Proofs.YtlkddcabjcejdaaW.PrintWords Go.Proofs.YtlkddcabjcejdaaW.PrintLast Go.Proofs.YtlkddcabjcejdaaW.PrintMore
attribute [local go_sem] max2_int min2_int max_two min_two max_three min_three max_four min_four   -- for this text's walks alone
set_option linter.unusedVariables false
set_option linter.unusedSimpArgs false

/-! ### spec_l1Cur_order: function 166 -/
def spec_l1Cur_order.l0 : Nat → List Int → Int → List Int → Int → Int → Option (List Int × Int × Int)
 | 0, _, _, _, _, _ => none
 | k + 1, x3, x4, x1000, x1001, x1002 => if x4 > 0 then ((spec_l1Cur_pick.f x1000 x1001 x1002 (wrap64 ((x3.length : Int) + 1))).bind fun bt216 => (if 0 ≤ bt216.1 then (if bt216.1 ≤ (x3.length : Int) then ((spec_l1Own.f (x3.take (bt216.1 : Int).toNat)).bind fun t223 => ((some (([wrap64 ((x3.length : Int) + 1)] : List Int) : List Int)).bind fun y226 => (if t223.length + y226.length < 17592186044416 then ((some (t223 ++ y226 : List Int)).bind fun y229 => ((some (x3.drop (bt216.1 : Int).toNat : List Int)).bind fun y232 => (if y229.length + y232.length < 17592186044416 then (spec_l1Cur_order.l0 k (y229 ++ y232) (wrap64 (x4 - 1)) x1000 bt216.2.1 bt216.2.2) else (none)))) else (none)))) else (none)) else (none))) else ((spec_l1Cur_pick.f x1000 x1001 x1002 40).bind fun bt239 => (if bt239.1 = 0 then (some ((([] : List Int)), bt239.2.1, bt239.2.2)) else (if bt239.1 = 1 then ((spec_l1Cur_pick.f x1000 bt239.2.1 bt239.2.2 (x3.length : Int)).bind fun bt245 => ((spec_l1Cur_among.f x1000 bt245.2.1 bt245.2.2 (([0, 1, 8, (-1)] : List Int))).bind fun bt251 => (if 0 ≤ bt245.1 then (if bt245.1 < (x3.length : Int) then (some ((x3.set (bt245.1 : Int).toNat bt251.1), bt251.2.1, bt251.2.2)) else (none)) else (none)))) else (if bt239.1 = 2 then (some ((([1, 2, 3, 4, 5, 6, 7, 8] : List Int)), bt239.2.1, bt239.2.2)) else (some (x3, bt239.2.1, bt239.2.2))))))
def spec_l1Cur_order.f (k : Nat) (s0_0 : List Int) (s0_1 : Int) (s0_2 : Int) : Option (List Int × Int × Int) := (spec_l1Cur_among.f s0_0 s0_1 s0_2 (([4, 5, 3, 6, 2, 7, 1, 4] : List Int))).bind fun bt213 => (spec_l1Cur_order.l0 k (([] : List Int)) bt213.1 s0_0 bt213.2.1 bt213.2.2)
def spec_l1Cur_order.T6 : Bool × List (List Nat × List Nat) := (true, [([], []), ([], []), ([0, 1], [0, 1]), ([2], [2]), ([], []), ([4], [4]), ([5], [5]), ([6], [6]), ([3, 7, 3], [3, 7]), ([], []), ([], []), ([9, 10], [9, 10]), ([8, 11, 8], [8, 11]), ([12, 12, 0, 1, 2, 3, 4, 5, 6, 7, 8, 9, 10, 11, 12], [0, 4, 9, 12])])
def spec_l1Cur_order.B6 : List Nat := [0, 0, 3, 7, 0, 16, 48, 112, 255, 0, 0, 1536, 4095, 8191]
theorem spec_l1Cur_order.tab6 : rtab .any (opsOf Try.f166 6) = spec_l1Cur_order.T6 := by kernel_rfl
theorem spec_l1Cur_order.bits6 : waitsOk spec_l1Cur_order.T6.2 spec_l1Cur_order.B6 = true := by kernel_rfl
set_option maxHeartbeats 8000000 in
set_option maxRecDepth 100000 in
theorem spec_l1Cur_order.calls (k : Nat) (g : Nat) (s0_0 : List Int) (s0_1 : Int) (s0_2 : Int) (r1 : List Int) (r2 : Int) (r3 : Int) (w0 w : World) (hI : IsS102 w0 w g s0_0 s0_1 s0_2) (hB : Below w0.heap.size w0 w) (h : spec_l1Cur_order.f k s0_0 s0_1 s0_2 = some (r1, r2, r3)) :
 Calls Try.prog 166 #[.pointer (some ⟨g, 0, none⟩)] w fun e w' => ∃ v0_ : Value, e = .returned (v0_) ∧ Kd.R (Kd.int .i64) 3 w' w.heap.size (fun _ => True) v0_ r1 ∧ IsS102 w0 w' g s0_0 r2 r3 ∧ Below w0.heap.size w0 w' ∧ KeepBut w w' g none := by
 have HI0 := zk hI
 have HK := zk (KeepBut.refl w g none)
 have HL := zk hB.size
 clear hI
 have HW0 := zk hB.size
 have HB := zk hB
 clear hB
 have H : ((spec_l1Cur_among.f s0_0 s0_1 s0_2 (([4, 5, 3, 6, 2, 7, 1, 4] : List Int))).bind fun bt213 => (spec_l1Cur_order.l0 k (([] : List Int)) bt213.1 s0_0 bt213.2.1 bt213.2.2)) = some (r1, r2, r3) := h
 clear h
 obtain ⟨y207, hy207⟩ : ∃ y_ : List Int, y_ = (([] : List Int)) := ⟨_, rfl⟩
 replace H : ((spec_l1Cur_among.f s0_0 s0_1 s0_2 (([4, 5, 3, 6, 2, 7, 1, 4] : List Int))).bind fun bt213 => (spec_l1Cur_order.l0 k y207 bt213.1 s0_0 bt213.2.1 bt213.2.2)) = some (r1, r2, r3) := by first | (rw [hy207]; with_reducible exact H) | (have H2_ := (Option.bind_some _ _).symm.trans H; rw [hy207]; with_reducible exact H2_) | (have H2_ := (Option.bind_some _ _).symm.trans H; with_reducible exact H2_) | with_reducible exact H | (rw [hy207]; exact H) | exact H
 have Ny207 := zk hy207
 clear hy207
 obtain ⟨y210, hy210⟩ : ∃ y_ : List Int, y_ = (([4, 5, 3, 6, 2, 7, 1, 4] : List Int)) := ⟨_, rfl⟩
 replace H : ((spec_l1Cur_among.f s0_0 s0_1 s0_2 y210).bind fun bt213 => (spec_l1Cur_order.l0 k y207 bt213.1 s0_0 bt213.2.1 bt213.2.2)) = some (r1, r2, r3) := by first | (rw [hy210]; with_reducible exact H) | (have H2_ := (Option.bind_some _ _).symm.trans H; rw [hy210]; with_reducible exact H2_) | (have H2_ := (Option.bind_some _ _).symm.trans H; with_reducible exact H2_) | with_reducible exact H | (rw [hy210]; exact H) | exact H
 have Ny210 := zk hy210
 clear hy210
 replace H := Option.bind_eq_some_iff.mp H
 obtain ⟨⟨t213, t214, t215⟩, A20, H⟩ := H
 try dsimp only at H
 have A2 := zk A20
 clear A20
 have H' := zk H
 clear H
 go_enter Try.func166, Try.ntmps166
 go_wp2_with (first | ((with_reducible refine gate_dst (N := 6) rfl ?_); refine Kd.R_lit (Kd.int .i64) _ 3 ?hg (N := 6) ?hd (xs := ([] : List Int)) (inner := []) (ok := fun _ => True) (okp := fun _ => True) ?hr ?hp (fun _ hk => hk) trivial (Below.refl _ _) (Nat.le_refl _) (by simp) ?_; (case hd => rfl); (case hg => rfl); (case hr => first | (go_simp; done) | (go_simp; rfl)); (case hp => exact (Reps.none _ _)); intro v208 w3 ho4 hb hg_ hnew_; clear hg_ hnew_; (first | rw [← Ny207.out] at ho4 | (simp only [Int.reduceToNat] at ho4; rw [← Ny207.out] at ho4)); have n0_ := zk (Kd.R_lower ho4 (keep_size (w := w) (g := g) (row := none) (by repeat (first | exact HK.out | apply KeepBut.set_ | apply keep_drewN | apply keep_drew | apply keep_alloc)))); have n1_ := zk (IsS102.below (by repeat (first | exact HI0.out | apply IsS102.alloc | apply IsS102.drewN | apply IsS102.drew | apply IsS102.set_1 | apply IsS102.set_2)) hb); have n2_ := zk (KeepBut.trans (by repeat (first | exact HK.out | apply KeepBut.set_ | apply keep_drewN | apply keep_drew | apply keep_alloc)) (KeepBut.of_below hb g none) (.inl rfl)); have n3_ := zk (below_step (by repeat (first | (with_reducible first | exact HB.out | apply za | apply zd | apply ze | refine below_set ?_ (IsS102.ge HI0.out)) | exact HB.out)) hb); clear HI0; clear HK; clear HB; have HO209 := n0_; have HI0 := n1_; have HK := n2_; have HB := n3_; clear n0_ n1_ n2_ n3_; clear hb ho4) | ((with_reducible refine gate_dst (N := 8) rfl ?_); refine Kd.R_lit (Kd.int .i64) _ 3 ?hg (N := 8) ?hd (xs := ([4, 5, 3, 6, 2, 7, 1, 4] : List Int)) (inner := [.int .i64 4, .int .i64 5, .int .i64 3, .int .i64 6, .int .i64 2, .int .i64 7, .int .i64 1, .int .i64 4]) (ok := fun _ => True) (okp := fun _ => True) ?hr ?hp (fun _ hk => hk) trivial (Below.refl _ _) (Nat.le_refl _) (by simp) ?_; (case hd => rfl); (case hg => rfl); (case hr => first | (go_simp; done) | (go_simp; rfl)); (case hp => exact (Reps.one (show Kd.M (Kd.int .i64) _ _ _ 4 [.int .i64 4] from rfl) (Reps.one (show Kd.M (Kd.int .i64) _ _ _ 5 [.int .i64 5] from rfl) (Reps.one (show Kd.M (Kd.int .i64) _ _ _ 3 [.int .i64 3] from rfl) (Reps.one (show Kd.M (Kd.int .i64) _ _ _ 6 [.int .i64 6] from rfl) (Reps.one (show Kd.M (Kd.int .i64) _ _ _ 2 [.int .i64 2] from rfl) (Reps.one (show Kd.M (Kd.int .i64) _ _ _ 7 [.int .i64 7] from rfl) (Reps.one (show Kd.M (Kd.int .i64) _ _ _ 1 [.int .i64 1] from rfl) (Reps.one (show Kd.M (Kd.int .i64) _ _ _ 4 [.int .i64 4] from rfl) (Reps.none _ _)))))))))); intro v211 w5 ho6 hb hg_ hnew_; clear hg_ hnew_; (first | rw [← Ny210.out] at ho6 | (simp only [Int.reduceToNat] at ho6; rw [← Ny210.out] at ho6)); have n0_ := zk (Kd.R_elder' (by (with_reducible repeat (first | apply zs | apply zr | apply zt)); exact HO209.out) (Kd.R_base ho6) hb); have n1_ := zk (Kd.R_lower (Kd.R_new' ho6 (Kd.R_lt (by (with_reducible repeat (first | apply zs | apply zr | apply zt)); exact HO209.out))) (keep_size (w := w) (g := g) (row := none) (by repeat (first | exact HK.out | apply KeepBut.set_ | apply keep_drewN | apply keep_drew | apply keep_alloc)))); have n2_ := zk (IsS102.below (by repeat (first | exact HI0.out | apply IsS102.alloc | apply IsS102.drewN | apply IsS102.drew | apply IsS102.set_1 | apply IsS102.set_2)) hb); have n3_ := zk (KeepBut.trans (by repeat (first | exact HK.out | apply KeepBut.set_ | apply keep_drewN | apply keep_drew | apply keep_alloc)) (KeepBut.of_below hb g none) (.inl rfl)); have n4_ := zk (below_step (by repeat (first | (with_reducible first | exact HB.out | apply za | apply zd | apply ze | refine below_set ?_ (IsS102.ge HI0.out)) | exact HB.out)) hb); clear HO209; clear HI0; clear HK; clear HB; have HO209 := n0_; have HO212 := n1_; have HI0 := n2_; have HK := n3_; have HB := n4_; clear n0_ n1_ n2_ n3_ n4_; clear hb ho6; obtain ⟨Ao7, co7, eo7⟩ := Kd.R_slice HO212.out; subst eo7) | ((with_reducible refine gate_callee (f := 195) rfl ?_); refine goesL_ (some 9) rfl rfl Try.func195 (by kernel_rfl) rfl #[.pointer (some ⟨g, 0, none⟩), .slice Ao7 y210.length co7] rfl (by (try simp only [List.map_toArray, List.map_cons, List.map_nil]); first | done | rfl | (simp only [List.length_drop, List.length_take]; rfl)) ?_; (with_reducible refine (spec_l1Cur_among.calls g s0_0 s0_1 s0_2 _ _ y210 t213 t214 t215 w0 _ ?side1 ?side2 ?side3 ?side4 ?side5 A2.out).mono ?_); (case side1 => repeat (first | exact HI0.out | apply IsS102.alloc | apply IsS102.drewN | apply IsS102.drew | apply IsS102.set_1 | apply IsS102.set_2)); (case side2 => repeat (first | (with_reducible first | exact HB.out | apply za | apply zd | apply ze | refine below_set ?_ (IsS102.ge HI0.out)) | exact HB.out)); (case side3 => repeat (first | exact (Kd.R_reads' HO212.out).2.2 | (with_reducible refine zv ?_ _) | (with_reducible refine zu ?_ _) | (with_reducible refine zw ?_))); (case side4 => exact (Kd.R_reads' HO212.out).2.1); (case side5 => exact far_slice (IsS102.own_ne HI0.out HO212.out (by decide))); rintro e w8 ⟨rfl, hi, hb, hk⟩; refine ⟨_, rfl, ?_⟩; have n0_ := zk (Kd.R_mono (Kd.R_keep (IsS102.apart (show IsS102 w0 _ g s0_0 s0_1 s0_2 from by repeat (first | exact HI0.out | apply IsS102.alloc | apply IsS102.drewN | apply IsS102.drew | apply IsS102.set_1 | apply IsS102.set_2)) (by (with_reducible repeat (first | apply zs | apply zr | apply zt)); exact HO209.out) (by decide)) hk (fun _ h => h.2)) (fun _ h => h.1)); have n1_ := zk (Kd.R_mono (Kd.R_keep (IsS102.apart (show IsS102 w0 _ g s0_0 s0_1 s0_2 from by repeat (first | exact HI0.out | apply IsS102.alloc | apply IsS102.drewN | apply IsS102.drew | apply IsS102.set_1 | apply IsS102.set_2)) (by (with_reducible repeat (first | apply zs | apply zr | apply zt)); exact HO212.out) (by decide)) hk (fun _ h => h.2)) (fun _ h => h.1)); have n2_ := zk (KeepBut.trans (by repeat (first | exact HK.out | apply KeepBut.set_ | apply keep_drewN | apply keep_drew | apply keep_alloc)) hk (.inl rfl)); have n3_ := zk (hb); have n4_ := zk (hi); clear HO209; clear HO212; clear HK; clear HB; clear HI0; have HO209 := n0_; have HO212 := n1_; have HK := n2_; have HB := n3_; have HI0 := n4_; clear n0_ n1_ n2_ n3_ n4_; (try clear hb); (try clear hb2); (try clear hk); (try clear hi)))
 go_loopg [3, 4] k (fun kq v3 v4 w' => ∃ (x3_1 : List Int) (x4_1 : Int) (x1001_1 : Int) (x1002_1 : Int), v4 = .int .i64 x4_1 ∧ Aside0 (spec_l1Cur_order.l0 kq x3_1 x4_1 s0_0 x1001_1 x1002_1 = some (r1, r2, r3)) ∧ Aside0 (kq ≤ k) ∧ Aside0 (Kd.R (Kd.int .i64) 3 w' w.heap.size (fun _ => True) v3 x3_1) ∧ Aside0 (IsS102 w0 w' g s0_0 x1001_1 x1002_1) ∧ Aside0 (KeepBut w w' g none) ∧ Aside0 (Below w0.heap.size w0 w'))
 case atStart => exact ⟨(y207), (t213), (t214), (t215), (by first | rfl | (simp; done) | (simp [*]; done)), H', ⟨Nat.le_refl _⟩, ⟨by (with_reducible repeat (first | apply zs | apply zr | apply zt)); exact Kd.R_mono HO209.out (fun _ hk => trivial)⟩, ⟨by repeat (first | exact HI0.out | apply IsS102.alloc | apply IsS102.drewN | apply IsS102.drew | apply IsS102.set_1 | apply IsS102.set_2)⟩, ⟨by repeat (first | exact HK.out | apply KeepBut.set_ | apply keep_drewN | apply keep_drew | apply keep_alloc)⟩, ⟨by repeat (first | (with_reducible first | exact HB.out | apply za | apply zd | apply ze | refine below_set ?_ (IsS102.ge HI0.out)) | exact HB.out)⟩⟩
 case round =>
  clear H'
  try clear c1
  try clear p2
  obtain ⟨x3_1, x4_1, x1001_1, x1002_1, rfl, HA, HK1, HO_3, HI0, HK, HB⟩ := hrel
  cases gk with
  | zero => exact absurd HA.out (by simp [spec_l1Cur_order.l0])
  | succ k1 =>
   have H := HA.out
   clear HA
   simp only [spec_l1Cur_order.l0] at H
   by_cases c9 : x4_1 > 0
   · rw [if_pos c9] at H
     have c9b0 : decide (0 < x4_1) = true := decide_eq_true c9
     clear c9
     replace H := Option.bind_eq_some_iff.mp H
     obtain ⟨⟨t216, t217, t218⟩, A100, H⟩ := H
     try dsimp only at H
     have A10 := zk A100
     clear A100
     by_cases c11 : 0 ≤ t216
     · rw [if_pos c11] at H
       have c11b0 := eq_true c11
       have c11b1 : decide (0 ≤ t216) = true := decide_eq_true c11
       clear c11
       by_cases c12 : t216 ≤ (x3_1.length : Int)
       · rw [if_pos c12] at H
         have c12b0 := eq_true c12
         have c12b1 : decide (t216 ≤ (x3_1.length : Int)) = true := decide_eq_true c12
         clear c12
         obtain ⟨y219, hy219⟩ : ∃ y_ : List Int, y_ = (x3_1.take (t216 : Int).toNat) := ⟨_, rfl⟩
         replace H : ((spec_l1Own.f y219).bind fun t223 => ((some (([wrap64 ((x3_1.length : Int) + 1)] : List Int) : List Int)).bind fun y226 => (if t223.length + y226.length < 17592186044416 then ((some (t223 ++ y226 : List Int)).bind fun y229 => ((some (x3_1.drop (t216 : Int).toNat : List Int)).bind fun y232 => (if y229.length + y232.length < 17592186044416 then (spec_l1Cur_order.l0 k1 (y229 ++ y232) (wrap64 (x4_1 - 1)) s0_0 t217 t218) else (none)))) else (none)))) = some (r1, r2, r3) := by first | (rw [hy219]; with_reducible exact H) | (have H2_ := (Option.bind_some _ _).symm.trans H; rw [hy219]; with_reducible exact H2_) | (have H2_ := (Option.bind_some _ _).symm.trans H; with_reducible exact H2_) | with_reducible exact H | (rw [hy219]; exact H) | exact H
         have Ny219 := zk hy219
         clear hy219
         replace H := Option.bind_eq_some_iff.mp H
         obtain ⟨t223, A130, H⟩ := H
         try dsimp only at H
         have A13 := zk A130
         clear A130
         obtain ⟨y226, hy226⟩ : ∃ y_ : List Int, y_ = (([wrap64 ((x3_1.length : Int) + 1)] : List Int)) := ⟨_, rfl⟩
         replace H : (if t223.length + y226.length < 17592186044416 then ((some (t223 ++ y226 : List Int)).bind fun y229 => ((some (x3_1.drop (t216 : Int).toNat : List Int)).bind fun y232 => (if y229.length + y232.length < 17592186044416 then (spec_l1Cur_order.l0 k1 (y229 ++ y232) (wrap64 (x4_1 - 1)) s0_0 t217 t218) else (none)))) else (none)) = some (r1, r2, r3) := by first | (rw [hy226]; with_reducible exact H) | (have H2_ := (Option.bind_some _ _).symm.trans H; rw [hy226]; with_reducible exact H2_) | (have H2_ := (Option.bind_some _ _).symm.trans H; with_reducible exact H2_) | with_reducible exact H | (rw [hy226]; exact H) | exact H
         have Ny226 := zk hy226
         clear hy226
         by_cases c14 : t223.length + y226.length < 17592186044416
         · rw [if_pos c14] at H
           have LMc14 := zk c14
           clear c14
           obtain ⟨y229, hy229⟩ : ∃ y_ : List Int, y_ = (t223 ++ y226) := ⟨_, rfl⟩
           replace H : ((some (x3_1.drop (t216 : Int).toNat : List Int)).bind fun y232 => (if y229.length + y232.length < 17592186044416 then (spec_l1Cur_order.l0 k1 (y229 ++ y232) (wrap64 (x4_1 - 1)) s0_0 t217 t218) else (none))) = some (r1, r2, r3) := by first | (rw [hy229]; with_reducible exact H) | (have H2_ := (Option.bind_some _ _).symm.trans H; rw [hy229]; with_reducible exact H2_) | (have H2_ := (Option.bind_some _ _).symm.trans H; with_reducible exact H2_) | with_reducible exact H | (rw [hy229]; exact H) | exact H
           have Ny229 := zk hy229
           clear hy229
           have c15b0 := eq_true (zo (by assumption) : 0 ≤ t216)
           have c16b0 := eq_true (zo (by assumption) : t216 ≤ (x3_1.length : Int))
           obtain ⟨y232, hy232⟩ : ∃ y_ : List Int, y_ = (x3_1.drop (t216 : Int).toNat) := ⟨_, rfl⟩
           replace H : (if y229.length + y232.length < 17592186044416 then (spec_l1Cur_order.l0 k1 (y229 ++ y232) (wrap64 (x4_1 - 1)) s0_0 t217 t218) else (none)) = some (r1, r2, r3) := by first | (rw [hy232]; with_reducible exact H) | (have H2_ := (Option.bind_some _ _).symm.trans H; rw [hy232]; with_reducible exact H2_) | (have H2_ := (Option.bind_some _ _).symm.trans H; with_reducible exact H2_) | with_reducible exact H | (rw [hy232]; exact H) | exact H
           have Ny232 := zk hy232
           clear hy232
           by_cases c17 : y229.length + y232.length < 17592186044416
           · rw [if_pos c17] at H
             have LMc17 := zk c17
             clear c17
             obtain ⟨y236, hy236⟩ : ∃ y_ : List Int, y_ = (y229 ++ y232) := ⟨_, rfl⟩
             replace H : (spec_l1Cur_order.l0 k1 y236 (wrap64 (x4_1 - 1)) s0_0 t217 t218) = some (r1, r2, r3) := by first | (rw [hy236]; with_reducible exact H) | (have H2_ := (Option.bind_some _ _).symm.trans H; rw [hy236]; with_reducible exact H2_) | (have H2_ := (Option.bind_some _ _).symm.trans H; with_reducible exact H2_) | with_reducible exact H | (rw [hy236]; exact H) | exact H
             have Ny236 := zk hy236
             clear hy236
             have H' := zk H
             clear H
             obtain ⟨Ao18, co18, eo18⟩ := Kd.R_slice HO_3.out
             subst eo18
             try go_wp2_with (first | ((with_reducible refine gate_callee (f := 192) rfl ?_); refine goesL_ (some 18) rfl rfl Try.func192 (by kernel_rfl) rfl #[.pointer (some ⟨g, 0, none⟩), .int .i64 (wrap64 ((x3_1.length : Int) + 1))] rfl (by (try simp only [List.map_toArray, List.map_cons, List.map_nil]); first | done | rfl | (simp only [List.length_drop, List.length_take]; rfl)) ?_; (with_reducible refine (spec_l1Cur_pick.calls g s0_0 x1001_1 x1002_1 (wrap64 ((x3_1.length : Int) + 1)) t216 t217 t218 w0 _ ?side1 ?side2 A10.out).mono ?_); (case side1 => repeat (first | exact HI0.out | apply IsS102.alloc | apply IsS102.drewN | apply IsS102.drew | apply IsS102.set_1 | apply IsS102.set_2)); (case side2 => repeat (first | (with_reducible first | exact HB.out | apply za | apply zd | apply ze | refine below_set ?_ (IsS102.ge HI0.out)) | exact HB.out)); rintro e w19 ⟨rfl, hi, hb, hk⟩; refine ⟨_, rfl, ?_⟩; have n0_ := zk (Kd.R_mono (Kd.R_keep (IsS102.apart (show IsS102 w0 _ g s0_0 x1001_1 x1002_1 from by repeat (first | exact HI0.out | apply IsS102.alloc | apply IsS102.drewN | apply IsS102.drew | apply IsS102.set_1 | apply IsS102.set_2)) (by (with_reducible repeat (first | apply zs | apply zr | apply zt)); exact HO_3.out) (by decide)) hk (fun _ h => h.2)) (fun _ h => h.1)); have n1_ := zk (KeepBut.trans (by repeat (first | exact HK.out | apply KeepBut.set_ | apply keep_drewN | apply keep_drew | apply keep_alloc)) hk (.inl rfl)); have n2_ := zk (hb); have n3_ := zk (hi); clear HO_3; clear HK; clear HB; clear HI0; have HO_3 := n0_; have HK := n1_; have HB := n2_; have HI0 := n3_; clear n0_ n1_ n2_ n3_; (try clear hb); (try clear hb2); (try clear hk); (try clear hi)))
             have n0_ := zk (zt HO_3.out)
             have n1_ := zk (IsS102.drew HI0.out)
             have n2_ := zk (keep_drew HK.out)
             have n3_ := zk (ze HB.out)
             clear HO_3
             clear HI0
             clear HK
             clear HB
             have HO_3 := n0_
             have HI0 := n1_
             have HK := n2_
             have HB := n3_
             clear n0_ n1_ n2_ n3_
             have q21 : (t216 : Int) ≤ ((x3_1.length : Int) : Int) := zo (by assumption)
             obtain ⟨i021, hi021, _, hsz21, _⟩ := info_parts info3
             have hroom21 : x3_1.length ≤ co18 := (Kd.R_reads' HO_3.out).2.1
             have hC21 : Kd.C (Kd.int .i64) _ Ao18 x3_1.length x3_1 := (Kd.R_reads' HO_3.out).2.2
             have hcut21 := cut_to (P := Try.prog) 22 3 .i64 Try.underlying22 hi021 Ao18 x3_1.length co18 t216 (zo (by assumption)) q21 hroom21
             have hr21 := Kd.C_take (m := (t216 : Int).toNat) hC21 (by omega)
             have hy21 : y219.length = (t216 : Int).toNat := (by rw [Ny219.out, List.length_take]; omega)
             rw [← Ny219.out] at hr21
             rw [← hy21] at hcut21
             have HR222 := zk hr21
             have HC222 := zk (show y219.length ≤ co18 from by omega)
             clear hr21 hC21 hroom21 hi021 hsz21
             have KY21 := zk hy21
             clear hy21
             have KL21 := zk (show (t216 : Int).toNat ≤ x3_1.length from by omega)
             replace q21 := eq_true q21
             have q22 : (t216 : Int) ≤ ((x3_1.length : Int) : Int) := zo (by assumption)
             obtain ⟨i022, hi022, _, hsz22, _⟩ := info_parts info3
             have hroom22 : x3_1.length ≤ co18 := (Kd.R_reads' HO_3.out).2.1
             have hC22 : Kd.C (Kd.int .i64) _ Ao18 x3_1.length x3_1 := (Kd.R_reads' HO_3.out).2.2
             have q022 : (0 : Int) ≤ (t216 : Int) := zo (by assumption)
             have hcut22 := cut_from (P := Try.prog) 22 3 .i64 Try.underlying22 hi022 1 hsz22 Ao18 x3_1.length co18 t216 q022 q22
             have hr22 := Kd.C_drop (m := (t216 : Int).toNat) (c := co18) hC22 (by omega) hroom22
             obtain ⟨A22, hA22⟩ : ∃ A1, A1 = (if co18 = (t216 : Int).toNat then Ao18 else (Ao18 : Option Addr).map (·.add ((t216 : Int).toNat * 1))) := ⟨_, rfl⟩
             obtain ⟨c22, hc22⟩ : ∃ c1, c1 = co18 - (t216 : Int).toNat := ⟨_, rfl⟩
             have hy22 : y232.length = x3_1.length - (t216 : Int).toNat := (by rw [Ny232.out, List.length_drop] <;> omega)
             rw [show (x3_1).drop (t216 : Int).toNat = y232 from Ny232.out.symm] at hr22
             replace hr22 : Kd.C (Kd.int .i64) _ A22 y232.length y232 := (by rw [hA22]; exact hr22)
             rw [← hy22, ← hA22, ← hc22] at hcut22
             have HR235 := zk hr22
             have HC235 := zk (show y232.length ≤ c22 from by rw [hy22, hc22]; exact Nat.sub_le_sub_right hroom22 _)
             clear hr22 hC22 hroom22 hi022 hsz22 hc22
             have KY22 := zk hy22
             have KA22 := zk hA22
             clear hy22 hA22
             have KL22 := zk (show (t216 : Int).toNat ≤ x3_1.length from by omega)
             replace q22 := eq_true q22
             refine start_ (n := 14) (S := fun w' => True) (ds := []) #[false, false, false, false, false, false, false, false, false, false, false, false, false, false] (by kernel_rfl) rfl rfl trivial (fun hHeld => ?_); refine with_tabW spec_l1Cur_order.tab6 spec_l1Cur_order.bits6 (fun HT_ HW_ => ?_)
             generalize w19.drew = w20 at HO_3 HI0 HK HB HR222 HR235 hHeld ⊢
             refine pure_ (i := 0) (N := some 19) (v := ?_) (a' := ?_) #[true, false, false, false, false, false, false, false, false, false, false, false, false, false] rfl rfl (any_of HT_.out (by kernel_rfl)) (fun _ _ _ h => h) (Or.inl ⟨by rfl, ?_⟩) ?_ ?_
             rotate_left
             · intro w'
               go_simp
               with_reducible rfl
             rotate_left
             · simp only [Act.put, List.setIfInBounds_toArray, List.set_cons_zero, List.set_cons_succ, i64_w, i32_w]
               rfl
             refine pure_ (i := 1) (N := some 20) (v := ?_) (a' := ?_) #[true, true, false, false, false, false, false, false, false, false, false, false, false, false] rfl rfl (any_of HT_.out (by kernel_rfl)) (fun _ _ _ h => h) (Or.inl ⟨by rfl, ?_⟩) ?_ ?_
             rotate_left
             · intro w'
               go_simp
               with_reducible rfl
             rotate_left
             · simp only [Act.put, List.setIfInBounds_toArray, List.set_cons_zero, List.set_cons_succ, i64_w, i32_w]
               rfl
             refine pure_ (i := 2) (N := some 21) (v := ?_) (a' := ?_) #[true, true, true, false, false, false, false, false, false, false, false, false, false, false] rfl rfl (any_of HT_.out (by kernel_rfl)) (fun _ _ _ h => h) (Or.inl ⟨by rfl, ?_⟩) ?_ ?_
             rotate_left
             · intro w'
               go_simp
               with_reducible rfl
             rotate_left
             · simp only [Act.put, List.setIfInBounds_toArray, List.set_cons_zero, List.set_cons_succ, i64_w, i32_w]
               rfl
             refine pure_ (i := 4) (N := some 23) (v := ?_) (a' := ?_) #[true, true, true, false, true, false, false, false, false, false, false, false, false, false] rfl rfl (any_of HT_.out (by kernel_rfl)) (fun _ _ _ h => h) (Or.inl ⟨by rfl, ?_⟩) ?_ ?_
             rotate_left
             · intro w'
               go_simp
               with_reducible rfl
             rotate_left
             · simp only [Act.put, List.setIfInBounds_toArray, List.set_cons_zero, List.set_cons_succ, i64_w, i32_w]
               rfl
             refine pure_ (i := 5) (N := some 24) (v := ?_) (a' := ?_) #[true, true, true, false, true, true, false, false, false, false, false, false, false, false] rfl rfl (any_of HT_.out (by kernel_rfl)) (fun _ _ _ h => h) (Or.inl ⟨by rfl, ?_⟩) ?_ ?_
             rotate_left
             · intro w'
               go_simp
               with_reducible rfl
             rotate_left
             · simp only [Act.put, List.setIfInBounds_toArray, List.set_cons_zero, List.set_cons_succ, i64_w, i32_w]
               rfl
             refine pure_ (i := 6) (N := some 25) (v := ?_) (a' := ?_) #[true, true, true, false, true, true, true, false, false, false, false, false, false, false] rfl rfl (any_of HT_.out (by kernel_rfl)) (fun _ _ _ h => h) (Or.inl ⟨by rfl, ?_⟩) ?_ ?_
             rotate_left
             · intro w'
               go_simp
               with_reducible rfl
             rotate_left
             · simp only [Act.put, List.setIfInBounds_toArray, List.set_cons_zero, List.set_cons_succ, i64_w, i32_w]
               rfl
             refine pure_ (i := 9) (N := some 28) (v := ?_) (a' := ?_) #[true, true, true, false, true, true, true, false, false, true, false, false, false, false] rfl rfl (any_of HT_.out (by kernel_rfl)) (fun _ _ _ h => h) (Or.inl ⟨by rfl, ?_⟩) ?_ ?_
             rotate_left
             · intro w'
               go_simp
               with_reducible rfl
             rotate_left
             · simp only [Act.put, List.setIfInBounds_toArray, List.set_cons_zero, List.set_cons_succ, i64_w, i32_w]
               rfl
             refine pure_ (i := 10) (N := some 29) (v := ?_) (a' := ?_) #[true, true, true, false, true, true, true, false, false, true, true, false, false, false] rfl rfl (any_of HT_.out (by kernel_rfl)) (fun _ _ _ h => h) (Or.inl ⟨by rfl, ?_⟩) ?_ ?_
             rotate_left
             · intro w'
               go_simp
               with_reducible rfl
             rotate_left
             · simp only [Act.put, List.setIfInBounds_toArray, List.set_cons_zero, List.set_cons_succ, i64_w, i32_w]
               rfl
             refine pure_ (i := 11) (N := some 30) (v := ?_) (a' := ?_) #[true, true, true, false, true, true, true, false, false, true, true, true, false, false] rfl rfl (any_of HT_.out (by kernel_rfl)) (fun _ _ _ h => h) (Or.inl ⟨by rfl, ?_⟩) ?_ ?_
             rotate_left
             · intro w'
               go_simp
               with_reducible rfl
             rotate_left
             · simp only [Act.put, List.setIfInBounds_toArray, List.set_cons_zero, List.set_cons_succ, i64_w, i32_w]
               rfl
             refine join_ (σ := Value × Value) 3 #[true, true, true, true, true, true, true, true, false, true, true, true, false, false] (fun s_ => [(22, s_.1), (26, s_.2)]) (fun s_ w' => (Kd.R (Kd.int .i64) 3 w' w.heap.size (fun k_ => some k_ ≠ (s_.2 : Value).ownBlock ∧ some k_ ≠ (.slice Ao18 x3_1.length co18 : Value).ownBlock) s_.1 t223) ∧ (Kd.R (Kd.int .i64) 3 w' w.heap.size (fun k_ => some k_ ≠ (s_.1 : Value).ownBlock ∧ some k_ ≠ (.slice Ao18 x3_1.length co18 : Value).ownBlock) s_.2 y226) ∧ (Kd.R (Kd.int .i64) 3 w' w.heap.size (fun k_ => some k_ ≠ (s_.1 : Value).ownBlock ∧ some k_ ≠ (s_.2 : Value).ownBlock) (.slice Ao18 x3_1.length co18) x3_1) ∧ (IsS102 w0 w' g s0_0 t217 t218) ∧ (KeepBut w w' g none) ∧ (Below w0.heap.size w0 w')) ?_ ?_
             rotate_left
             · intro hCont
               refine two_ (i := 3) (j := 7) (Ni := some 22) (Nj := some 26) #[true, true, true, true, true, true, true, false, false, true, true, true, false, false] #[true, true, true, false, true, true, true, true, false, true, true, true, false, false] rfl rfl rfl rfl (two_of HT_.out (by kernel_rfl)) (by decide) (by decide) (fun K hK => ?_) (fun K hK => ?_)
               · skip
                 refine goes_ Try.func169 (by kernel_rfl) rfl #[.slice Ao18 y219.length co18] (by rfl) rfl rfl (by (try simp only [List.map_toArray, List.map_cons, List.map_nil]); first | done | rfl | (simp only [List.length_drop, List.length_take]; rfl)) ?_
                 with_reducible refine (spec_l1Own.calls _ _ y219 t223 _ ?side1 ?side2 A13.out).mono ?_
                 (case side1 => repeat (first | exact (by repeat (first | (with_reducible exact HR222.out) | (with_reducible refine zv ?_ _) | (with_reducible refine zu ?_ _) | (with_reducible refine zw ?_) | exact HR222.out)) | (with_reducible refine zv ?_ _) | (with_reducible refine zu ?_ _) | (with_reducible refine zw ?_)))
                 (case side2 => exact HC222.out)
                 rintro e w23 ⟨v224, rfl, ho0, hb⟩
                 refine ⟨_, rfl, ?_⟩
                 have n0_ := zk (Kd.R_elder' (by (with_reducible repeat (first | apply zs | apply zr | apply zt)); exact HO_3.out) (Kd.R_base ho0) hb)
                 have n1_ := zk (Kd.R_lower (Kd.R_new' ho0 (Kd.R_lt (by (with_reducible repeat (first | apply zs | apply zr | apply zt)); exact HO_3.out))) (keep_size (w := w) (g := g) (row := none) (by repeat (first | exact HK.out | apply KeepBut.set_ | apply keep_drewN | apply keep_drew | apply keep_alloc))))
                 have n2_ := zk (IsS102.below (by repeat (first | exact HI0.out | apply IsS102.alloc | apply IsS102.drewN | apply IsS102.drew | apply IsS102.set_1 | apply IsS102.set_2)) hb)
                 have n3_ := zk (Kd.C_below (by repeat (first | (with_reducible exact HR222.out) | (with_reducible refine zv ?_ _) | (with_reducible refine zu ?_ _) | (with_reducible refine zw ?_) | exact HR222.out)) hb)
                 have n4_ := zk (Kd.C_below (by repeat (first | (with_reducible exact HR235.out) | (with_reducible refine zv ?_ _) | (with_reducible refine zu ?_ _) | (with_reducible refine zw ?_) | exact HR235.out)) hb)
                 have n5_ := zk (KeepBut.trans (by repeat (first | exact HK.out | apply KeepBut.set_ | apply keep_drewN | apply keep_drew | apply keep_alloc)) (KeepBut.of_below hb g none) (.inl rfl))
                 have n6_ := zk (below_step (by repeat (first | (with_reducible first | exact HB.out | apply za | apply zd | apply ze | refine below_set ?_ (IsS102.ge HI0.out)) | exact HB.out)) hb)
                 clear HO_3
                 clear HI0
                 clear HR222
                 clear HR235
                 clear HK
                 clear HB
                 have HO_3 := n0_
                 have HO225 := n1_
                 have HI0 := n2_
                 have HR222 := n3_
                 have HR235 := n4_
                 have HK := n5_
                 have HB := n6_
                 clear n0_ n1_ n2_ n3_ n4_ n5_ n6_
                 (try clear hb)
                 (try clear hb2)
                 (try clear hk)
                 (try clear hi)
                 (try clear ho0)
                 refine hK.out _ _ trivial (fun hHeld => ?_)
                 clear hK K
                 refine norm_ (a' := ?_) ?_ ?_
                 rotate_left
                 · show Act.put _ (some 22) _ = _
                   simp only [Act.put, List.setIfInBounds_toArray, List.set_cons_zero, List.set_cons_succ, i64_w, i32_w]
                   rfl
                 refine one_ (i := 7) (N := some 26) #[true, true, true, true, true, true, true, true, false, true, true, true, false, false] rfl rfl (one_of HT_.out (by kernel_rfl)) (by decide) (fun K hK => ?_)
                 refine Kd.R_lit_step (Kd.int .i64) _ 3 ?hg (N := 26) ?hd (xs := ([wrap64 ((x3_1.length : Int) + 1)] : List Int)) (inner := [.int .i64 (wrap64 ((x3_1.length : Int) + 1))]) (ok := fun _ => True) (okp := fun _ => True) ?hr ?hp (fun _ hk => hk) trivial (Below.refl _ _) (Nat.le_refl _) (by simp) ?_; (case hd => rfl); (case hg => rfl); (case hr => first | (go_simp; done) | (go_simp; rfl)); (case hp => exact (Reps.one (show Kd.M (Kd.int .i64) _ _ _ (wrap64 ((x3_1.length : Int) + 1)) [.int .i64 (wrap64 ((x3_1.length : Int) + 1))] from rfl) (Reps.none _ _)))
                 intro v227 w24 ho25 hb hg_ hnew_
                 clear hg_ hnew_
                 (first | rw [← Ny226.out] at ho25 | (simp only [Int.reduceToNat] at ho25; rw [← Ny226.out] at ho25))
                 have n0_ := zk (Kd.R_elder' (by (with_reducible repeat (first | apply zs | apply zr | apply zt)); exact HO_3.out) (Kd.R_base ho25) hb)
                 have n1_ := zk (Kd.R_elder' (by (with_reducible repeat (first | apply zs | apply zr | apply zt)); exact HO225.out) (Kd.R_base ho25) hb)
                 have n2_ := zk (Kd.R_lower (Kd.R_new' (Kd.R_new' ho25 (Kd.R_lt (by (with_reducible repeat (first | apply zs | apply zr | apply zt)); exact HO_3.out))) (Kd.R_lt (by (with_reducible repeat (first | apply zs | apply zr | apply zt)); exact HO225.out))) (keep_size (w := w) (g := g) (row := none) (by repeat (first | exact HK.out | apply KeepBut.set_ | apply keep_drewN | apply keep_drew | apply keep_alloc))))
                 have n3_ := zk (IsS102.below (by repeat (first | exact HI0.out | apply IsS102.alloc | apply IsS102.drewN | apply IsS102.drew | apply IsS102.set_1 | apply IsS102.set_2)) hb)
                 have n4_ := zk (Kd.C_below (by repeat (first | (with_reducible exact HR222.out) | (with_reducible refine zv ?_ _) | (with_reducible refine zu ?_ _) | (with_reducible refine zw ?_) | exact HR222.out)) hb)
                 have n5_ := zk (Kd.C_below (by repeat (first | (with_reducible exact HR235.out) | (with_reducible refine zv ?_ _) | (with_reducible refine zu ?_ _) | (with_reducible refine zw ?_) | exact HR235.out)) hb)
                 have n6_ := zk (KeepBut.trans (by repeat (first | exact HK.out | apply KeepBut.set_ | apply keep_drewN | apply keep_drew | apply keep_alloc)) (KeepBut.of_below hb g none) (.inl rfl))
                 have n7_ := zk (below_step (by repeat (first | (with_reducible first | exact HB.out | apply za | apply zd | apply ze | refine below_set ?_ (IsS102.ge HI0.out)) | exact HB.out)) hb)
                 clear HO_3
                 clear HO225
                 clear HI0
                 clear HR222
                 clear HR235
                 clear HK
                 clear HB
                 have HO_3 := n0_
                 have HO225 := n1_
                 have HO228 := n2_
                 have HI0 := n3_
                 have HR222 := n4_
                 have HR235 := n5_
                 have HK := n6_
                 have HB := n7_
                 clear n0_ n1_ n2_ n3_ n4_ n5_ n6_ n7_
                 clear hb ho25
                 refine hK.out _ _ trivial (fun hHeld => ?_)
                 clear hK K
                 refine norm_ (a' := ?_) ?_ ?_
                 rotate_left
                 · show Act.put _ (some 26) _ = _
                   simp only [Act.put, List.setIfInBounds_toArray, List.set_cons_zero, List.set_cons_succ, i64_w, i32_w]
                   rfl
                 exact norm_ (by simp only [putAll, Act.put, List.setIfInBounds_toArray, List.set_cons_zero, List.set_cons_succ]) (hCont (v224, v227) _ ⟨(by (with_reducible repeat (first | apply zs | apply zr | apply zt)); exact Kd.R_mono HO225.out (fun _ hk => ⟨hk.2, hk.1.2⟩)), (by (with_reducible repeat (first | apply zs | apply zr | apply zt)); exact Kd.R_mono HO228.out (fun _ hk => ⟨hk.2, hk.1.2⟩)), (by (with_reducible repeat (first | apply zs | apply zr | apply zt)); exact Kd.R_mono HO_3.out (fun _ hk => ⟨hk.1.2, hk.2⟩)), (by repeat (first | exact HI0.out | apply IsS102.alloc | apply IsS102.drewN | apply IsS102.drew | apply IsS102.set_1 | apply IsS102.set_2)), (by repeat (first | exact HK.out | apply KeepBut.set_ | apply keep_drewN | apply keep_drew | apply keep_alloc)), (by repeat (first | (with_reducible first | exact HB.out | apply za | apply zd | apply ze | refine below_set ?_ (IsS102.ge HI0.out)) | exact HB.out))⟩)
               · skip
                 refine Kd.R_lit_step (Kd.int .i64) _ 3 ?hg (N := 26) ?hd (xs := ([wrap64 ((x3_1.length : Int) + 1)] : List Int)) (inner := [.int .i64 (wrap64 ((x3_1.length : Int) + 1))]) (ok := fun _ => True) (okp := fun _ => True) ?hr ?hp (fun _ hk => hk) trivial (Below.refl _ _) (Nat.le_refl _) (by simp) ?_; (case hd => rfl); (case hg => rfl); (case hr => first | (go_simp; done) | (go_simp; rfl)); (case hp => exact (Reps.one (show Kd.M (Kd.int .i64) _ _ _ (wrap64 ((x3_1.length : Int) + 1)) [.int .i64 (wrap64 ((x3_1.length : Int) + 1))] from rfl) (Reps.none _ _)))
                 intro v227 w23 ho24 hb hg_ hnew_
                 clear hg_ hnew_
                 (first | rw [← Ny226.out] at ho24 | (simp only [Int.reduceToNat] at ho24; rw [← Ny226.out] at ho24))
                 have n0_ := zk (Kd.R_elder' (by (with_reducible repeat (first | apply zs | apply zr | apply zt)); exact HO_3.out) (Kd.R_base ho24) hb)
                 have n1_ := zk (Kd.R_lower (Kd.R_new' ho24 (Kd.R_lt (by (with_reducible repeat (first | apply zs | apply zr | apply zt)); exact HO_3.out))) (keep_size (w := w) (g := g) (row := none) (by repeat (first | exact HK.out | apply KeepBut.set_ | apply keep_drewN | apply keep_drew | apply keep_alloc))))
                 have n2_ := zk (IsS102.below (by repeat (first | exact HI0.out | apply IsS102.alloc | apply IsS102.drewN | apply IsS102.drew | apply IsS102.set_1 | apply IsS102.set_2)) hb)
                 have n3_ := zk (Kd.C_below (by repeat (first | (with_reducible exact HR222.out) | (with_reducible refine zv ?_ _) | (with_reducible refine zu ?_ _) | (with_reducible refine zw ?_) | exact HR222.out)) hb)
                 have n4_ := zk (Kd.C_below (by repeat (first | (with_reducible exact HR235.out) | (with_reducible refine zv ?_ _) | (with_reducible refine zu ?_ _) | (with_reducible refine zw ?_) | exact HR235.out)) hb)
                 have n5_ := zk (KeepBut.trans (by repeat (first | exact HK.out | apply KeepBut.set_ | apply keep_drewN | apply keep_drew | apply keep_alloc)) (KeepBut.of_below hb g none) (.inl rfl))
                 have n6_ := zk (below_step (by repeat (first | (with_reducible first | exact HB.out | apply za | apply zd | apply ze | refine below_set ?_ (IsS102.ge HI0.out)) | exact HB.out)) hb)
                 clear HO_3
                 clear HI0
                 clear HR222
                 clear HR235
                 clear HK
                 clear HB
                 have HO_3 := n0_
                 have HO228 := n1_
                 have HI0 := n2_
                 have HR222 := n3_
                 have HR235 := n4_
                 have HK := n5_
                 have HB := n6_
                 clear n0_ n1_ n2_ n3_ n4_ n5_ n6_
                 clear hb ho24
                 refine hK.out _ _ trivial (fun hHeld => ?_)
                 clear hK K
                 refine norm_ (a' := ?_) ?_ ?_
                 rotate_left
                 · show Act.put _ (some 26) _ = _
                   simp only [Act.put, List.setIfInBounds_toArray, List.set_cons_zero, List.set_cons_succ, i64_w, i32_w]
                   rfl
                 refine one_ (i := 3) (N := some 22) #[true, true, true, true, true, true, true, true, false, true, true, true, false, false] rfl rfl (one_of HT_.out (by kernel_rfl)) (by decide) (fun K hK => ?_)
                 refine goes_ Try.func169 (by kernel_rfl) rfl #[.slice Ao18 y219.length co18] (by rfl) rfl rfl (by (try simp only [List.map_toArray, List.map_cons, List.map_nil]); first | done | rfl | (simp only [List.length_drop, List.length_take]; rfl)) ?_
                 with_reducible refine (spec_l1Own.calls _ _ y219 t223 _ ?side1 ?side2 A13.out).mono ?_
                 (case side1 => repeat (first | exact (by repeat (first | (with_reducible exact HR222.out) | (with_reducible refine zv ?_ _) | (with_reducible refine zu ?_ _) | (with_reducible refine zw ?_) | exact HR222.out)) | (with_reducible refine zv ?_ _) | (with_reducible refine zu ?_ _) | (with_reducible refine zw ?_)))
                 (case side2 => exact HC222.out)
                 rintro e w25 ⟨v224, rfl, ho0, hb⟩
                 refine ⟨_, rfl, ?_⟩
                 have n0_ := zk (Kd.R_elder' (by (with_reducible repeat (first | apply zs | apply zr | apply zt)); exact HO_3.out) (Kd.R_base ho0) hb)
                 have n1_ := zk (Kd.R_elder' (by (with_reducible repeat (first | apply zs | apply zr | apply zt)); exact HO228.out) (Kd.R_base ho0) hb)
                 have n2_ := zk (Kd.R_lower (Kd.R_new' (Kd.R_new' ho0 (Kd.R_lt (by (with_reducible repeat (first | apply zs | apply zr | apply zt)); exact HO_3.out))) (Kd.R_lt (by (with_reducible repeat (first | apply zs | apply zr | apply zt)); exact HO228.out))) (keep_size (w := w) (g := g) (row := none) (by repeat (first | exact HK.out | apply KeepBut.set_ | apply keep_drewN | apply keep_drew | apply keep_alloc))))
                 have n3_ := zk (IsS102.below (by repeat (first | exact HI0.out | apply IsS102.alloc | apply IsS102.drewN | apply IsS102.drew | apply IsS102.set_1 | apply IsS102.set_2)) hb)
                 have n4_ := zk (Kd.C_below (by repeat (first | (with_reducible exact HR222.out) | (with_reducible refine zv ?_ _) | (with_reducible refine zu ?_ _) | (with_reducible refine zw ?_) | exact HR222.out)) hb)
                 have n5_ := zk (Kd.C_below (by repeat (first | (with_reducible exact HR235.out) | (with_reducible refine zv ?_ _) | (with_reducible refine zu ?_ _) | (with_reducible refine zw ?_) | exact HR235.out)) hb)
                 have n6_ := zk (KeepBut.trans (by repeat (first | exact HK.out | apply KeepBut.set_ | apply keep_drewN | apply keep_drew | apply keep_alloc)) (KeepBut.of_below hb g none) (.inl rfl))
                 have n7_ := zk (below_step (by repeat (first | (with_reducible first | exact HB.out | apply za | apply zd | apply ze | refine below_set ?_ (IsS102.ge HI0.out)) | exact HB.out)) hb)
                 clear HO_3
                 clear HO228
                 clear HI0
                 clear HR222
                 clear HR235
                 clear HK
                 clear HB
                 have HO_3 := n0_
                 have HO228 := n1_
                 have HO225 := n2_
                 have HI0 := n3_
                 have HR222 := n4_
                 have HR235 := n5_
                 have HK := n6_
                 have HB := n7_
                 clear n0_ n1_ n2_ n3_ n4_ n5_ n6_ n7_
                 (try clear hb)
                 (try clear hb2)
                 (try clear hk)
                 (try clear hi)
                 (try clear ho0)
                 refine hK.out _ _ trivial (fun hHeld => ?_)
                 clear hK K
                 refine norm_ (a' := ?_) ?_ ?_
                 rotate_left
                 · show Act.put _ (some 22) _ = _
                   simp only [Act.put, List.setIfInBounds_toArray, List.set_cons_zero, List.set_cons_succ, i64_w, i32_w]
                   rfl
                 exact norm_ (by simp only [putAll, Act.put, List.setIfInBounds_toArray, List.set_cons_zero, List.set_cons_succ]) (hCont (v224, v227) _ ⟨(by (with_reducible repeat (first | apply zs | apply zr | apply zt)); exact Kd.R_mono HO225.out (fun _ hk => ⟨hk.2, hk.1.2⟩)), (by (with_reducible repeat (first | apply zs | apply zr | apply zt)); exact Kd.R_mono HO228.out (fun _ hk => ⟨hk.2, hk.1.2⟩)), (by (with_reducible repeat (first | apply zs | apply zr | apply zt)); exact Kd.R_mono HO_3.out (fun _ hk => ⟨hk.2, hk.1.2⟩)), (by repeat (first | exact HI0.out | apply IsS102.alloc | apply IsS102.drewN | apply IsS102.drew | apply IsS102.set_1 | apply IsS102.set_2)), (by repeat (first | exact HK.out | apply KeepBut.set_ | apply keep_drewN | apply keep_drew | apply keep_alloc)), (by repeat (first | (with_reducible first | exact HB.out | apply za | apply zd | apply ze | refine below_set ?_ (IsS102.ge HI0.out)) | exact HB.out))⟩)
             rintro ⟨v224, v227⟩ w26 ⟨h0_, h1_, h2_, h3_, h4_, h5_⟩
             have n0_ : Aside0 (Kd.R (Kd.int .i64) 3 w26 w.heap.size (fun k_ => some k_ ≠ (v227 : Value).ownBlock ∧ some k_ ≠ (.slice Ao18 x3_1.length co18 : Value).ownBlock) v224 t223) := ⟨h0_⟩
             have n1_ : Aside0 (Kd.R (Kd.int .i64) 3 w26 w.heap.size (fun k_ => some k_ ≠ (v224 : Value).ownBlock ∧ some k_ ≠ (.slice Ao18 x3_1.length co18 : Value).ownBlock) v227 y226) := ⟨h1_⟩
             have n2_ : Aside0 (Kd.R (Kd.int .i64) 3 w26 w.heap.size (fun k_ => some k_ ≠ (v224 : Value).ownBlock ∧ some k_ ≠ (v227 : Value).ownBlock) (.slice Ao18 x3_1.length co18) x3_1) := ⟨h2_⟩
             have n3_ : Aside0 (IsS102 w0 w26 g s0_0 t217 t218) := ⟨h3_⟩
             have n4_ : Aside0 (KeepBut w w26 g none) := ⟨h4_⟩
             have n5_ : Aside0 (Below w0.heap.size w0 w26) := ⟨h5_⟩
             clear HO_3
             clear HI0
             clear HK
             clear HB
             clear h0_ h1_ h2_ h3_ h4_ h5_
             have HO225 := n0_
             have HO228 := n1_
             have HO_3 := n2_
             have HI0 := n3_
             have HK := n4_
             have HB := n5_
             clear n0_ n1_ n2_ n3_ n4_ n5_
             have hHeld := trivial
             (try clear HR222)
             have HR222 := zk (show Kd.C (Kd.int .i64) w26 Ao18 y219.length y219 from by rw [Ny219.out]; exact Kd.C_take (m := (t216 : Int).toNat) ((Kd.R_reads' HO_3.out).2.2) KL21.out)
             (try clear HR235)
             have HR235 := zk (show Kd.C (Kd.int .i64) w26 A22 y232.length y232 from by rw [Ny232.out, KA22.out]; exact Kd.C_drop (m := (t216 : Int).toNat) (c := co18) ((Kd.R_reads' HO_3.out).2.2) KL22.out ((Kd.R_reads' HO_3.out).2.1))
             obtain ⟨Ao28, co28, eo28⟩ := Kd.R_slice HO228.out
             (first | subst eo28 | (injection eo28 with f1_ f2_ f3_; have f4_ := f1_.symm; have f5_ := f3_.symm; clear f1_ f2_ f3_; subst f4_; subst f5_))
             refine norm_ (a' := ?_) ?_ ?_
             rotate_left
             · simp only [putAll, Act.put, List.setIfInBounds_toArray, List.set_cons_zero, List.set_cons_succ]
               rfl
             refine one_ (i := 8) (N := some 27) #[true, true, true, true, true, true, true, true, true, true, true, true, false, false] rfl rfl (one_of HT_.out (by kernel_rfl)) (by decide) (fun K hK => ?_)
             refine Kd.R_append_rows_step (Kd.int .i64) w.heap.size (by rfl) (.tmp 22) (.tmp 26) 22 3 (.int .i64 0) 8 rfl Try.underlying22 info3 rfl (by decide) (by omega) v224 t223 y226 _ _ _ (fun k_ => some k_ ≠ (.slice Ao18 x3_1.length co18 : Value).ownBlock ∧ some k_ ≠ (.slice Ao28 y226.length co28 : Value).ownBlock) (fun _ => False) rfl rfl ?aO ?aR (fun _ _ h => h) (fun _ h => h.elim) ?aF (Below.refl _ _) ?aS ?aL ?_
             (case aR => repeat (first | exact (Kd.R_reads' HO228.out).2.2 | (with_reducible refine zv ?_ _) | (with_reducible refine zu ?_ _) | (with_reducible refine zw ?_)))
             (case aF => exact (fun k_ hk => ⟨Kd.fresh' (Kd.R_lt (by (with_reducible repeat (first | apply zs | apply zr | apply zt)); exact HO_3.out)) k_ hk, Kd.fresh' (Kd.R_lt (by (with_reducible repeat (first | apply zs | apply zr | apply zt)); exact HO228.out)) k_ hk⟩))
             (case aO => exact (by (with_reducible repeat (first | apply zs | apply zr | apply zt)); exact Kd.R_mono HO225.out (fun _ hk => ⟨hk.2, hk.1⟩)))
             (case aS => exact (keep_size (w := w) (g := g) (row := none) (by repeat (first | exact HK.out | apply KeepBut.set_ | apply keep_drewN | apply keep_drew | apply keep_alloc))))
             (case aL => have := LMc14.out; omega)
             intro v230 w27 ho hb hg hat
             rw [← Ny229.out] at ho
             have n0_ := zk (Kd.R_after (ok := (fun k_ => some k_ ≠ (.slice Ao28 y226.length co28 : Value).ownBlock)) (by (with_reducible repeat (first | apply zs | apply zr | apply zt)); first | exact Kd.R_mono HO_3.out (fun _ hk => ⟨hk.2, hk.1⟩) | exact Kd.R_mono HO_3.out (fun k_ hk => by (have own_ : ∀ (A : Option Addr) (n c : Nat), (Value.slice A n c).ownBlock = A.map Addr.block := fun A n c => by cases A <;> rfl); simp only [own_] at hk ⊢; exact ⟨hk.2, hk.1⟩)) hg hat)
             have n1_ := zk (IsS102.grown (by repeat (first | exact HI0.out | apply IsS102.alloc | apply IsS102.drewN | apply IsS102.drew | apply IsS102.set_1 | apply IsS102.set_2)) hg (IsS102.own_ne HI0.out HO225.out (by decide)))
             have n2_ := zk (Kd.R_after (ok := (fun k_ => some k_ ≠ (.slice Ao18 x3_1.length co18 : Value).ownBlock)) (by (with_reducible repeat (first | apply zs | apply zr | apply zt)); first | exact Kd.R_mono HO228.out (fun _ hk => ⟨hk.2, hk.1⟩) | exact Kd.R_mono HO228.out (fun k_ hk => by (have own_ : ∀ (A : Option Addr) (n c : Nat), (Value.slice A n c).ownBlock = A.map Addr.block := fun A n c => by cases A <;> rfl); simp only [own_] at hk ⊢; exact ⟨hk.2, hk.1⟩)) hg hat)
             have n3_ := zk (below_weaken (by repeat (first | (with_reducible first | exact HB.out | apply za | apply zd | apply ze | refine below_set ?_ (IsS102.ge HI0.out)) | exact HB.out)) HL.out hb)
             have n4_ := zk (KeepBut.trans (by repeat (first | exact HK.out | apply KeepBut.set_ | apply keep_drewN | apply keep_drew | apply keep_alloc)) (KeepBut.of_grown hg g) (Kd.R_base2 HO225.out))
             have n5_ := zk ((show Kd.C (Kd.int .i64) w27 Ao18 y219.length y219 from by rw [Ny219.out]; exact Kd.C_take (m := (t216 : Int).toNat) ((Kd.R_reads' (Kd.R_after (ok := (fun k_ => some k_ ≠ (.slice Ao28 y226.length co28 : Value).ownBlock)) (by (with_reducible repeat (first | apply zs | apply zr | apply zt)); first | exact Kd.R_mono HO_3.out (fun _ hk => ⟨hk.2, hk.1⟩) | exact Kd.R_mono HO_3.out (fun k_ hk => by (have own_ : ∀ (A : Option Addr) (n c : Nat), (Value.slice A n c).ownBlock = A.map Addr.block := fun A n c => by cases A <;> rfl); simp only [own_] at hk ⊢; exact ⟨hk.2, hk.1⟩)) hg hat)).2.2) KL21.out))
             have n6_ := zk ((show Kd.C (Kd.int .i64) w27 A22 y232.length y232 from by rw [Ny232.out, KA22.out]; exact Kd.C_drop (m := (t216 : Int).toNat) (c := co18) ((Kd.R_reads' (Kd.R_after (ok := (fun k_ => some k_ ≠ (.slice Ao28 y226.length co28 : Value).ownBlock)) (by (with_reducible repeat (first | apply zs | apply zr | apply zt)); first | exact Kd.R_mono HO_3.out (fun _ hk => ⟨hk.2, hk.1⟩) | exact Kd.R_mono HO_3.out (fun k_ hk => by (have own_ : ∀ (A : Option Addr) (n c : Nat), (Value.slice A n c).ownBlock = A.map Addr.block := fun A n c => by cases A <;> rfl); simp only [own_] at hk ⊢; exact ⟨hk.2, hk.1⟩)) hg hat)).2.2) KL22.out ((Kd.R_reads' (Kd.R_after (ok := (fun k_ => some k_ ≠ (.slice Ao28 y226.length co28 : Value).ownBlock)) (by (with_reducible repeat (first | apply zs | apply zr | apply zt)); first | exact Kd.R_mono HO_3.out (fun _ hk => ⟨hk.2, hk.1⟩) | exact Kd.R_mono HO_3.out (fun k_ hk => by (have own_ : ∀ (A : Option Addr) (n c : Nat), (Value.slice A n c).ownBlock = A.map Addr.block := fun A n c => by cases A <;> rfl); simp only [own_] at hk ⊢; exact ⟨hk.2, hk.1⟩)) hg hat)).2.1)))
             have n7_ := zk (ho)
             clear HO_3
             clear HI0
             clear HO228
             clear HB
             clear HK
             clear HR222
             clear HR235
             clear HO225
             have HO_3 := n0_
             have HI0 := n1_
             have HO228 := n2_
             have HB := n3_
             have HK := n4_
             have HR222 := n5_
             have HR235 := n6_
             have HO231 := n7_
             clear n0_ n1_ n2_ n3_ n4_ n5_ n6_ n7_
             clear ho hb hg hat
             refine hK.out _ _ trivial (fun hHeld => ?_)
             clear hK K
             refine norm_ (a' := ?_) ?_ ?_
             rotate_left
             · show Act.put _ (some 27) _ = _
               simp only [Act.put, List.setIfInBounds_toArray, List.set_cons_zero, List.set_cons_succ, i64_w, i32_w]
               rfl
             refine one_ (i := 12) (N := some 31) #[true, true, true, true, true, true, true, true, true, true, true, true, true, false] rfl rfl (one_of HT_.out (by kernel_rfl)) (by decide) (fun K hK => ?_)
             refine Kd.R_append_rows_step (Kd.int .i64) w.heap.size (by rfl) (.tmp 27) (.tmp 30) 22 3 (.int .i64 0) 8 rfl Try.underlying22 info3 rfl (by decide) (by omega) v230 y229 y232 _ _ _ (fun k_ => some k_ ≠ (.slice Ao18 x3_1.length co18 : Value).ownBlock ∧ some k_ ≠ (.slice Ao28 y226.length co28 : Value).ownBlock) (fun _ => False) rfl rfl ?aO ?aR (fun _ _ h => h) (fun _ h => h.elim) ?aF (Below.refl _ _) ?aS ?aL ?_
             (case aR => repeat (first | exact (by repeat (first | (with_reducible exact HR235.out) | (with_reducible refine zv ?_ _) | (with_reducible refine zu ?_ _) | (with_reducible refine zw ?_) | exact HR235.out)) | (with_reducible refine zv ?_ _) | (with_reducible refine zu ?_ _) | (with_reducible refine zw ?_)))
             (case aF => exact (fun k_ hk => ⟨Kd.fresh' (Kd.R_lt (by (with_reducible repeat (first | apply zs | apply zr | apply zt)); exact HO_3.out)) k_ hk, Kd.fresh' (Kd.R_lt (by (with_reducible repeat (first | apply zs | apply zr | apply zt)); exact HO228.out)) k_ hk⟩))
             (case aO => exact (by (with_reducible repeat (first | apply zs | apply zr | apply zt)); exact HO231.out))
             (case aS => exact (keep_size (w := w) (g := g) (row := none) (by repeat (first | exact HK.out | apply KeepBut.set_ | apply keep_drewN | apply keep_drew | apply keep_alloc))))
             (case aL => have := LMc17.out; omega)
             intro v237 w29 ho hb hg hat
             rw [← Ny236.out] at ho
             have n0_ := zk (Kd.R_after (ok := (fun k_ => some k_ ≠ (.slice Ao28 y226.length co28 : Value).ownBlock)) (by (with_reducible repeat (first | apply zs | apply zr | apply zt)); exact HO_3.out) hg hat)
             have n1_ := zk (IsS102.grown (by repeat (first | exact HI0.out | apply IsS102.alloc | apply IsS102.drewN | apply IsS102.drew | apply IsS102.set_1 | apply IsS102.set_2)) hg (IsS102.own_ne HI0.out HO231.out (by decide)))
             have n2_ := zk (Kd.R_after (ok := (fun k_ => some k_ ≠ (.slice Ao18 x3_1.length co18 : Value).ownBlock)) (by (with_reducible repeat (first | apply zs | apply zr | apply zt)); exact HO228.out) hg hat)
             have n3_ := zk (below_weaken (by repeat (first | (with_reducible first | exact HB.out | apply za | apply zd | apply ze | refine below_set ?_ (IsS102.ge HI0.out)) | exact HB.out)) HL.out hb)
             have n4_ := zk (KeepBut.trans (by repeat (first | exact HK.out | apply KeepBut.set_ | apply keep_drewN | apply keep_drew | apply keep_alloc)) (KeepBut.of_grown hg g) (Kd.R_base2 HO231.out))
             have n5_ := zk ((show Kd.C (Kd.int .i64) w29 Ao18 y219.length y219 from by rw [Ny219.out]; exact Kd.C_take (m := (t216 : Int).toNat) ((Kd.R_reads' (Kd.R_after (ok := (fun k_ => some k_ ≠ (.slice Ao28 y226.length co28 : Value).ownBlock)) (by (with_reducible repeat (first | apply zs | apply zr | apply zt)); exact HO_3.out) hg hat)).2.2) KL21.out))
             have n6_ := zk ((show Kd.C (Kd.int .i64) w29 A22 y232.length y232 from by rw [Ny232.out, KA22.out]; exact Kd.C_drop (m := (t216 : Int).toNat) (c := co18) ((Kd.R_reads' (Kd.R_after (ok := (fun k_ => some k_ ≠ (.slice Ao28 y226.length co28 : Value).ownBlock)) (by (with_reducible repeat (first | apply zs | apply zr | apply zt)); exact HO_3.out) hg hat)).2.2) KL22.out ((Kd.R_reads' (Kd.R_after (ok := (fun k_ => some k_ ≠ (.slice Ao28 y226.length co28 : Value).ownBlock)) (by (with_reducible repeat (first | apply zs | apply zr | apply zt)); exact HO_3.out) hg hat)).2.1)))
             have n7_ := zk (ho)
             clear HO_3
             clear HI0
             clear HO228
             clear HB
             clear HK
             clear HR222
             clear HR235
             clear HO231
             have HO_3 := n0_
             have HI0 := n1_
             have HO228 := n2_
             have HB := n3_
             have HK := n4_
             have HR222 := n5_
             have HR235 := n6_
             have HO238 := n7_
             clear n0_ n1_ n2_ n3_ n4_ n5_ n6_ n7_
             clear ho hb hg hat
             refine hK.out _ _ trivial (fun hHeld => ?_)
             clear hK K
             refine norm_ (a' := ?_) ?_ ?_
             rotate_left
             · show Act.put _ (some 31) _ = _
               simp only [Act.put, List.setIfInBounds_toArray, List.set_cons_zero, List.set_cons_succ, i64_w, i32_w]
               rfl
             refine pure_ (i := 13) (N := some 3) (v := ?_) (a' := ?_) #[true, true, true, true, true, true, true, true, true, true, true, true, true, true] rfl rfl (any_of HT_.out (by kernel_rfl)) (fun _ _ _ h => h) (Or.inl ⟨by rfl, ?_⟩) ?_ ?_
             rotate_left
             · intro w'
               go_simp
               with_reducible rfl
             rotate_left
             · simp only [Act.put, List.setIfInBounds_toArray, List.set_cons_zero, List.set_cons_succ, i64_w, i32_w]
               rfl
             refine done_ (done_of HT_.out (by kernel_rfl)) ?_
             try go_wp2
             go_roundg k1
             case measure => have := HK1.out; omega
             case rel => exact ⟨(y236), (wrap64 (x4_1 - 1)), (t217), (t218), (by first | rfl | (simp; done) | (simp [*]; done)), H', ⟨by have := HK1.out; omega⟩, ⟨by (with_reducible repeat (first | apply zs | apply zr | apply zt)); exact Kd.R_mono HO238.out (fun _ hk => trivial)⟩, ⟨by repeat (first | exact HI0.out | apply IsS102.alloc | apply IsS102.drewN | apply IsS102.drew | apply IsS102.set_1 | apply IsS102.set_2)⟩, ⟨by repeat (first | exact HK.out | apply KeepBut.set_ | apply keep_drewN | apply keep_drew | apply keep_alloc)⟩, ⟨by repeat (first | (with_reducible first | exact HB.out | apply za | apply zd | apply ze | refine below_set ?_ (IsS102.ge HI0.out)) | exact HB.out)⟩⟩
           · rw [if_neg c17] at H
             exact absurd H (by simp)
         · rw [if_neg c14] at H
           exact absurd H (by simp)
       · rw [if_neg c12] at H
         exact absurd H (by simp)
     · rw [if_neg c11] at H
       exact absurd H (by simp)
   · rw [if_neg c9] at H
     have c9b0 : decide (0 < x4_1) = false := decide_eq_false c9
     clear c9
     replace H := Option.bind_eq_some_iff.mp H
     obtain ⟨⟨t239, t240, t241⟩, A300, H⟩ := H
     try dsimp only at H
     have A30 := zk A300
     clear A300
     by_cases c31 : t239 = 0
     · rw [if_pos c31] at H
       have c31b0 : (t239 == 0) = true := beq_iff_eq.mpr c31
       have c31b1 : (t239 != 0) = false := bne_eq_false_iff_eq.mpr c31
       clear c31
       obtain ⟨y242, hy242⟩ : ∃ y_ : List Int, y_ = (([] : List Int)) := ⟨_, rfl⟩
       replace H : (some (y242, t240, t241)) = some (r1, r2, r3) := by first | (rw [hy242]; with_reducible exact H) | (have H2_ := (Option.bind_some _ _).symm.trans H; rw [hy242]; with_reducible exact H2_) | (have H2_ := (Option.bind_some _ _).symm.trans H; with_reducible exact H2_) | with_reducible exact H | (rw [hy242]; exact H) | exact H
       have Ny242 := zk hy242
       clear hy242
       simp only [Option.some.injEq, Prod.mk.injEq] at H
       obtain ⟨rfl, rfl, rfl⟩ := H
       go_wp2_with (first | ((with_reducible refine gate_callee (f := 192) rfl ?_); refine goesL_ (some 33) rfl rfl Try.func192 (by kernel_rfl) rfl #[.pointer (some ⟨g, 0, none⟩), .int .i64 40] rfl (by (try simp only [List.map_toArray, List.map_cons, List.map_nil]); first | done | rfl | (simp only [List.length_drop, List.length_take]; rfl)) ?_; (with_reducible refine (spec_l1Cur_pick.calls g s0_0 x1001_1 x1002_1 40 t239 t240 t241 w0 _ ?side1 ?side2 A30.out).mono ?_); (case side1 => repeat (first | exact HI0.out | apply IsS102.alloc | apply IsS102.drewN | apply IsS102.drew | apply IsS102.set_1 | apply IsS102.set_2)); (case side2 => repeat (first | (with_reducible first | exact HB.out | apply za | apply zd | apply ze | refine below_set ?_ (IsS102.ge HI0.out)) | exact HB.out)); rintro e w32 ⟨rfl, hi, hb, hk⟩; refine ⟨_, rfl, ?_⟩; have n0_ := zk (Kd.R_mono (Kd.R_keep (IsS102.apart (show IsS102 w0 _ g s0_0 x1001_1 x1002_1 from by repeat (first | exact HI0.out | apply IsS102.alloc | apply IsS102.drewN | apply IsS102.drew | apply IsS102.set_1 | apply IsS102.set_2)) (by (with_reducible repeat (first | apply zs | apply zr | apply zt)); exact HO_3.out) (by decide)) hk (fun _ h => h.2)) (fun _ h => h.1)); have n1_ := zk (KeepBut.trans (by repeat (first | exact HK.out | apply KeepBut.set_ | apply keep_drewN | apply keep_drew | apply keep_alloc)) hk (.inl rfl)); have n2_ := zk (hb); have n3_ := zk (hi); clear HO_3; clear HK; clear HB; clear HI0; have HO_3 := n0_; have HK := n1_; have HB := n2_; have HI0 := n3_; clear n0_ n1_ n2_ n3_; (try clear hb); (try clear hb2); (try clear hk); (try clear hi)) | ((with_reducible refine gate_dst (N := 36) rfl ?_); refine Kd.R_lit (Kd.int .i64) _ 3 ?hg (N := 36) ?hd (xs := ([] : List Int)) (inner := []) (ok := fun _ => True) (okp := fun _ => True) ?hr ?hp (fun _ hk => hk) trivial (Below.refl _ _) (Nat.le_refl _) (by simp) ?_; (case hd => rfl); (case hg => rfl); (case hr => first | (go_simp; done) | (go_simp; rfl)); (case hp => exact (Reps.none _ _)); intro v243 w33 ho34 hb hg_ hnew_; clear hg_ hnew_; (first | rw [← Ny242.out] at ho34 | (simp only [Int.reduceToNat] at ho34; rw [← Ny242.out] at ho34)); have n0_ := zk (Kd.R_elder' (by (with_reducible repeat (first | apply zs | apply zr | apply zt)); exact HO_3.out) (Kd.R_base ho34) hb); have n1_ := zk (Kd.R_lower (Kd.R_new' ho34 (Kd.R_lt (by (with_reducible repeat (first | apply zs | apply zr | apply zt)); exact HO_3.out))) (keep_size (w := w) (g := g) (row := none) (by repeat (first | exact HK.out | apply KeepBut.set_ | apply keep_drewN | apply keep_drew | apply keep_alloc)))); have n2_ := zk (IsS102.below (by repeat (first | exact HI0.out | apply IsS102.alloc | apply IsS102.drewN | apply IsS102.drew | apply IsS102.set_1 | apply IsS102.set_2)) hb); have n3_ := zk (KeepBut.trans (by repeat (first | exact HK.out | apply KeepBut.set_ | apply keep_drewN | apply keep_drew | apply keep_alloc)) (KeepBut.of_below hb g none) (.inl rfl)); have n4_ := zk (below_step (by repeat (first | (with_reducible first | exact HB.out | apply za | apply zd | apply ze | refine below_set ?_ (IsS102.ge HI0.out)) | exact HB.out)) hb); clear HO_3; clear HI0; clear HK; clear HB; have HO_3 := n0_; have HO244 := n1_; have HI0 := n2_; have HK := n3_; have HB := n4_; clear n0_ n1_ n2_ n3_ n4_; clear hb ho34))
       go_ret
       exact ⟨_, by first | rfl | (simp [errW_none, errW_some] <;> rfl) | (simp [*, errW_none, errW_some] <;> rfl), by (with_reducible repeat (first | apply zs | apply zr | apply zt)); exact Kd.R_mono HO244.out (fun _ hk => trivial), by repeat (first | exact HI0.out | apply IsS102.alloc | apply IsS102.drewN | apply IsS102.drew | apply IsS102.set_1 | apply IsS102.set_2), by repeat (first | (with_reducible first | exact HB.out | apply za | apply zd | apply ze | refine below_set ?_ (IsS102.ge HI0.out)) | exact HB.out), by repeat (first | exact HK.out | apply KeepBut.set_ | apply keep_drewN | apply keep_drew | apply keep_alloc)⟩
     · rw [if_neg c31] at H
       have c31b0 : (t239 == 0) = false := beq_eq_false_iff_ne.mpr c31
       have c31b1 : (t239 != 0) = true := bne_iff_ne.mpr c31
       by_cases c35 : t239 = 1
       · rw [if_pos c35] at H
         have c35b0 : (t239 == 1) = true := beq_iff_eq.mpr c35
         have c35b1 : (t239 != 1) = false := bne_eq_false_iff_eq.mpr c35
         clear c35
         replace H := Option.bind_eq_some_iff.mp H
         obtain ⟨⟨t245, t246, t247⟩, A360, H⟩ := H
         try dsimp only at H
         have A36 := zk A360
         clear A360
         obtain ⟨y248, hy248⟩ : ∃ y_ : List Int, y_ = (([0, 1, 8, (-1)] : List Int)) := ⟨_, rfl⟩
         replace H : ((spec_l1Cur_among.f s0_0 t246 t247 y248).bind fun bt251 => (if 0 ≤ t245 then (if t245 < (x3_1.length : Int) then (some ((x3_1.set (t245 : Int).toNat bt251.1), bt251.2.1, bt251.2.2)) else (none)) else (none))) = some (r1, r2, r3) := by first | (rw [hy248]; with_reducible exact H) | (have H2_ := (Option.bind_some _ _).symm.trans H; rw [hy248]; with_reducible exact H2_) | (have H2_ := (Option.bind_some _ _).symm.trans H; with_reducible exact H2_) | with_reducible exact H | (rw [hy248]; exact H) | exact H
         have Ny248 := zk hy248
         clear hy248
         replace H := Option.bind_eq_some_iff.mp H
         obtain ⟨⟨t251, t252, t253⟩, A370, H⟩ := H
         try dsimp only at H
         have A37 := zk A370
         clear A370
         by_cases c38 : 0 ≤ t245
         · rw [if_pos c38] at H
           have c38b0 : decide (0 ≤ t245) = true := decide_eq_true c38
           clear c38
           by_cases c39 : t245 < (x3_1.length : Int)
           · rw [if_pos c39] at H
             have c39b0 : decide (t245 < (x3_1.length : Int)) = true := decide_eq_true c39
             clear c39
             obtain ⟨y254, hy254⟩ : ∃ y_ : List Int, y_ = (x3_1.set (t245 : Int).toNat t251) := ⟨_, rfl⟩
             replace H : (some (y254, t252, t253)) = some (r1, r2, r3) := by first | (rw [hy254]; with_reducible exact H) | (have H2_ := (Option.bind_some _ _).symm.trans H; rw [hy254]; with_reducible exact H2_) | (have H2_ := (Option.bind_some _ _).symm.trans H; with_reducible exact H2_) | with_reducible exact H | (rw [hy254]; exact H) | exact H
             have Ny254 := zk hy254
             clear hy254
             simp only [Option.some.injEq, Prod.mk.injEq] at H
             obtain ⟨rfl, rfl, rfl⟩ := H
             go_wp2_with (first | ((with_reducible refine gate_callee (f := 192) rfl ?_); refine goesL_ (some 33) rfl rfl Try.func192 (by kernel_rfl) rfl #[.pointer (some ⟨g, 0, none⟩), .int .i64 40] rfl (by (try simp only [List.map_toArray, List.map_cons, List.map_nil]); first | done | rfl | (simp only [List.length_drop, List.length_take]; rfl)) ?_; (with_reducible refine (spec_l1Cur_pick.calls g s0_0 x1001_1 x1002_1 40 t239 t240 t241 w0 _ ?side1 ?side2 A30.out).mono ?_); (case side1 => repeat (first | exact HI0.out | apply IsS102.alloc | apply IsS102.drewN | apply IsS102.drew | apply IsS102.set_1 | apply IsS102.set_2)); (case side2 => repeat (first | (with_reducible first | exact HB.out | apply za | apply zd | apply ze | refine below_set ?_ (IsS102.ge HI0.out)) | exact HB.out)); rintro e w41 ⟨rfl, hi, hb, hk⟩; refine ⟨_, rfl, ?_⟩; have n0_ := zk (Kd.R_mono (Kd.R_keep (IsS102.apart (show IsS102 w0 _ g s0_0 x1001_1 x1002_1 from by repeat (first | exact HI0.out | apply IsS102.alloc | apply IsS102.drewN | apply IsS102.drew | apply IsS102.set_1 | apply IsS102.set_2)) (by (with_reducible repeat (first | apply zs | apply zr | apply zt)); exact HO_3.out) (by decide)) hk (fun _ h => h.2)) (fun _ h => h.1)); have n1_ := zk (KeepBut.trans (by repeat (first | exact HK.out | apply KeepBut.set_ | apply keep_drewN | apply keep_drew | apply keep_alloc)) hk (.inl rfl)); have n2_ := zk (hb); have n3_ := zk (hi); clear HO_3; clear HK; clear HB; clear HI0; have HO_3 := n0_; have HK := n1_; have HB := n2_; have HI0 := n3_; clear n0_ n1_ n2_ n3_; (try clear hb); (try clear hb2); (try clear hk); (try clear hi); obtain ⟨Ao42, co42, eo42⟩ := Kd.R_slice HO_3.out; subst eo42) | ((with_reducible refine gate_callee (f := 192) rfl ?_); refine goesL_ (some 43) rfl rfl Try.func192 (by kernel_rfl) rfl #[.pointer (some ⟨g, 0, none⟩), .int .i64 (x3_1.length : Int)] rfl (by (try simp only [List.map_toArray, List.map_cons, List.map_nil]); first | done | rfl | (simp only [List.length_drop, List.length_take]; rfl)) ?_; (with_reducible refine (spec_l1Cur_pick.calls g s0_0 t240 t241 (x3_1.length : Int) t245 t246 t247 w0 _ ?side1 ?side2 A36.out).mono ?_); (case side1 => repeat (first | exact HI0.out | apply IsS102.alloc | apply IsS102.drewN | apply IsS102.drew | apply IsS102.set_1 | apply IsS102.set_2)); (case side2 => repeat (first | (with_reducible first | exact HB.out | apply za | apply zd | apply ze | refine below_set ?_ (IsS102.ge HI0.out)) | exact HB.out)); rintro e w43 ⟨rfl, hi, hb, hk⟩; refine ⟨_, rfl, ?_⟩; have n0_ := zk (Kd.R_mono (Kd.R_keep (IsS102.apart (show IsS102 w0 _ g s0_0 t240 t241 from by repeat (first | exact HI0.out | apply IsS102.alloc | apply IsS102.drewN | apply IsS102.drew | apply IsS102.set_1 | apply IsS102.set_2)) (by (with_reducible repeat (first | apply zs | apply zr | apply zt)); exact HO_3.out) (by decide)) hk (fun _ h => h.2)) (fun _ h => h.1)); have n1_ := zk (KeepBut.trans (by repeat (first | exact HK.out | apply KeepBut.set_ | apply keep_drewN | apply keep_drew | apply keep_alloc)) hk (.inl rfl)); have n2_ := zk (hb); have n3_ := zk (hi); clear HO_3; clear HK; clear HB; clear HI0; have HO_3 := n0_; have HK := n1_; have HB := n2_; have HI0 := n3_; clear n0_ n1_ n2_ n3_; (try clear hb); (try clear hb2); (try clear hk); (try clear hi)) | ((with_reducible refine gate_dst (N := 45) rfl ?_); refine Kd.R_lit (Kd.int .i64) _ 3 ?hg (N := 45) ?hd (xs := ([0, 1, 8, (-1)] : List Int)) (inner := [.int .i64 0, .int .i64 1, .int .i64 8, .int .i64 (-1)]) (ok := fun _ => True) (okp := fun _ => True) ?hr ?hp (fun _ hk => hk) trivial (Below.refl _ _) (Nat.le_refl _) (by simp) ?_; (case hd => rfl); (case hg => rfl); (case hr => first | (go_simp; done) | (go_simp; rfl)); (case hp => exact (Reps.one (show Kd.M (Kd.int .i64) _ _ _ 0 [.int .i64 0] from rfl) (Reps.one (show Kd.M (Kd.int .i64) _ _ _ 1 [.int .i64 1] from rfl) (Reps.one (show Kd.M (Kd.int .i64) _ _ _ 8 [.int .i64 8] from rfl) (Reps.one (show Kd.M (Kd.int .i64) _ _ _ (-1) [.int .i64 (-1)] from rfl) (Reps.none _ _)))))); intro v249 w44 ho45 hb hg_ hnew_; clear hg_ hnew_; (first | rw [← Ny248.out] at ho45 | (simp only [Int.reduceToNat] at ho45; rw [← Ny248.out] at ho45)); have n0_ := zk (Kd.R_elder' (by (with_reducible repeat (first | apply zs | apply zr | apply zt)); exact HO_3.out) (Kd.R_base ho45) hb); have n1_ := zk (Kd.R_lower (Kd.R_new' ho45 (Kd.R_lt (by (with_reducible repeat (first | apply zs | apply zr | apply zt)); exact HO_3.out))) (keep_size (w := w) (g := g) (row := none) (by repeat (first | exact HK.out | apply KeepBut.set_ | apply keep_drewN | apply keep_drew | apply keep_alloc)))); have n2_ := zk (IsS102.below (by repeat (first | exact HI0.out | apply IsS102.alloc | apply IsS102.drewN | apply IsS102.drew | apply IsS102.set_1 | apply IsS102.set_2)) hb); have n3_ := zk (KeepBut.trans (by repeat (first | exact HK.out | apply KeepBut.set_ | apply keep_drewN | apply keep_drew | apply keep_alloc)) (KeepBut.of_below hb g none) (.inl rfl)); have n4_ := zk (below_step (by repeat (first | (with_reducible first | exact HB.out | apply za | apply zd | apply ze | refine below_set ?_ (IsS102.ge HI0.out)) | exact HB.out)) hb); clear HO_3; clear HI0; clear HK; clear HB; have HO_3 := n0_; have HO250 := n1_; have HI0 := n2_; have HK := n3_; have HB := n4_; clear n0_ n1_ n2_ n3_ n4_; clear hb ho45; obtain ⟨Ao46, co46, eo46⟩ := Kd.R_slice HO250.out; subst eo46) | ((with_reducible refine gate_callee (f := 195) rfl ?_); refine goesL_ (some 46) rfl rfl Try.func195 (by kernel_rfl) rfl #[.pointer (some ⟨g, 0, none⟩), .slice Ao46 y248.length co46] rfl (by (try simp only [List.map_toArray, List.map_cons, List.map_nil]); first | done | rfl | (simp only [List.length_drop, List.length_take]; rfl)) ?_; (with_reducible refine (spec_l1Cur_among.calls g s0_0 t246 t247 _ _ y248 t251 t252 t253 w0 _ ?side1 ?side2 ?side3 ?side4 ?side5 A37.out).mono ?_); (case side1 => repeat (first | exact HI0.out | apply IsS102.alloc | apply IsS102.drewN | apply IsS102.drew | apply IsS102.set_1 | apply IsS102.set_2)); (case side2 => repeat (first | (with_reducible first | exact HB.out | apply za | apply zd | apply ze | refine below_set ?_ (IsS102.ge HI0.out)) | exact HB.out)); (case side3 => repeat (first | exact (Kd.R_reads' HO250.out).2.2 | (with_reducible refine zv ?_ _) | (with_reducible refine zu ?_ _) | (with_reducible refine zw ?_))); (case side4 => exact (Kd.R_reads' HO250.out).2.1); (case side5 => exact far_slice (IsS102.own_ne HI0.out HO250.out (by decide))); rintro e w47 ⟨rfl, hi, hb, hk⟩; refine ⟨_, rfl, ?_⟩; have n0_ := zk (Kd.R_mono (Kd.R_keep (IsS102.apart (show IsS102 w0 _ g s0_0 t246 t247 from by repeat (first | exact HI0.out | apply IsS102.alloc | apply IsS102.drewN | apply IsS102.drew | apply IsS102.set_1 | apply IsS102.set_2)) (by (with_reducible repeat (first | apply zs | apply zr | apply zt)); exact HO_3.out) (by decide)) hk (fun _ h => h.2)) (fun _ h => h.1)); have n1_ := zk (Kd.R_mono (Kd.R_keep (IsS102.apart (show IsS102 w0 _ g s0_0 t246 t247 from by repeat (first | exact HI0.out | apply IsS102.alloc | apply IsS102.drewN | apply IsS102.drew | apply IsS102.set_1 | apply IsS102.set_2)) (by (with_reducible repeat (first | apply zs | apply zr | apply zt)); exact HO250.out) (by decide)) hk (fun _ h => h.2)) (fun _ h => h.1)); have n2_ := zk (KeepBut.trans (by repeat (first | exact HK.out | apply KeepBut.set_ | apply keep_drewN | apply keep_drew | apply keep_alloc)) hk (.inl rfl)); have n3_ := zk (hb); have n4_ := zk (hi); clear HO_3; clear HO250; clear HK; clear HB; clear HI0; have HO_3 := n0_; have HO250 := n1_; have HK := n2_; have HB := n3_; have HI0 := n4_; clear n0_ n1_ n2_ n3_ n4_; (try clear hb); (try clear hb2); (try clear hk); (try clear hi); have p40 : 0 ≤ (t245 : Int) := zo (by assumption); have q40 : (t245 : Int) < ((x3_1.length : Int) : Int) := zo (by assumption); obtain ⟨go40, co40, eo40, gb40, gl40, cl40, HG40⟩ := Kd.R_form HO_3.out (by omega); (first | cases eo40 | (injection eo40 with ea_ en_ ec_; (first | subst ea_ | (injection ea_ with ea_; subst ea_)); subst ec_; clear en_)); have GB40 := zk gb40; have GG40 := zk HG40; clear gb40 gl40 HG40; obtain ⟨hx40_0, hf40_0⟩ := Kd.R_celln 0 HO_3.out (t245 : Int) p40 q40; replace p40 := eq_true p40; replace q40 := eq_true q40; have n_ := zk (Kd.R_mono (ok' := (fun k_ => some k_ ≠ (.slice Ao46 y248.length co46 : Value).ownBlock)) HO_3.out (fun k_ hk => hk.2)); clear HO_3; have HO_3 := n_; clear n_; obtain ⟨hy48_, hz48_⟩ := Kd.R_celln 0 HO_3.out (t245 : Int) (zo (by assumption)) (zo (by assumption)); have HP48 := Kd.R_putg HO_3.out (t245 : Int) t251) | ((with_reducible refine gate_store (t := 3) (p := 47) rfl ?_); refine store_event (t := 3) (p := 47) (v := ?vo_w49) (w1 := (w47.setCell ⟨go40, (t245 : Int).toNat, none⟩ (.int .i64 t251))) ?hg ?ho ?hn ?hr ?_; (case ho => rfl); (case hg => rfl); (case hn => rfl); (case hr => first | (go_simp; done) | (go_simp; rfl)); intro w49 hw; have hg : w47.grownBy w49 (some go40) := (by rw [hw]; exact HP48.2); have hp_ : Kd.R (Kd.int .i64) 3 w49 w.heap.size (fun k_ => some k_ ≠ (.slice Ao46 y248.length co46 : Value).ownBlock) (.slice (some ⟨go40, 0, none⟩) x3_1.length co42) y254 := (by rw [hw, Ny254.out]; exact HP48.1); clear HP48; have n0_ := zk (hp_); have n1_ := zk (IsS102.grown (by repeat (first | exact HI0.out | apply IsS102.alloc | apply IsS102.drewN | apply IsS102.drew | apply IsS102.set_1 | apply IsS102.set_2)) hg (IsS102.own_ne HI0.out HO_3.out (by decide))); have n2_ := zk (Kd.R_after (v := (.slice (some ⟨go40, 0, none⟩) x3_1.length co42)) (v1 := (.slice (some ⟨go40, 0, none⟩) x3_1.length co42)) (ok := (fun _ => True)) (by (with_reducible repeat (first | apply zs | apply zr | apply zt)); exact HO250.out) hg (.inl rfl)); have n3_ := zk ((by rw [hw]; exact below_set (HB.out) (Nat.le_trans HL.out GB40.out) : Below w0.heap.size w0 w49)); have n4_ := zk (KeepBut.trans (by repeat (first | exact HK.out | apply KeepBut.set_ | apply keep_drewN | apply keep_drew | apply keep_alloc)) (KeepBut.of_grown hg g) (Kd.R_base2 HO_3.out)); clear HO_3; clear HI0; clear HO250; clear HB; clear HK; have HO_3 := n0_; have HI0 := n1_; have HO250 := n2_; have HB := n3_; have HK := n4_; clear n0_ n1_ n2_ n3_ n4_; clear hg hw hp_))
             go_ret
             exact ⟨_, by first | rfl | (simp [errW_none, errW_some] <;> rfl) | (simp [*, errW_none, errW_some] <;> rfl), by (with_reducible repeat (first | apply zs | apply zr | apply zt)); exact Kd.R_mono HO_3.out (fun _ hk => trivial), by repeat (first | exact HI0.out | apply IsS102.alloc | apply IsS102.drewN | apply IsS102.drew | apply IsS102.set_1 | apply IsS102.set_2), by repeat (first | (with_reducible first | exact HB.out | apply za | apply zd | apply ze | refine below_set ?_ (IsS102.ge HI0.out)) | exact HB.out), by repeat (first | exact HK.out | apply KeepBut.set_ | apply keep_drewN | apply keep_drew | apply keep_alloc)⟩
           · rw [if_neg c39] at H
             exact absurd H (by simp)
         · rw [if_neg c38] at H
           exact absurd H (by simp)
       · rw [if_neg c35] at H
         have c35b0 : (t239 == 1) = false := beq_eq_false_iff_ne.mpr c35
         have c35b1 : (t239 != 1) = true := bne_iff_ne.mpr c35
         by_cases c50 : t239 = 2
         · rw [if_pos c50] at H
           have c50b0 : (t239 == 2) = true := beq_iff_eq.mpr c50
           have c50b1 : (t239 != 2) = false := bne_eq_false_iff_eq.mpr c50
           clear c50
           obtain ⟨y255, hy255⟩ : ∃ y_ : List Int, y_ = (([1, 2, 3, 4, 5, 6, 7, 8] : List Int)) := ⟨_, rfl⟩
           replace H : (some (y255, t240, t241)) = some (r1, r2, r3) := by first | (rw [hy255]; with_reducible exact H) | (have H2_ := (Option.bind_some _ _).symm.trans H; rw [hy255]; with_reducible exact H2_) | (have H2_ := (Option.bind_some _ _).symm.trans H; with_reducible exact H2_) | with_reducible exact H | (rw [hy255]; exact H) | exact H
           have Ny255 := zk hy255
           clear hy255
           simp only [Option.some.injEq, Prod.mk.injEq] at H
           obtain ⟨rfl, rfl, rfl⟩ := H
           go_wp2_with (first | ((with_reducible refine gate_callee (f := 192) rfl ?_); refine goesL_ (some 33) rfl rfl Try.func192 (by kernel_rfl) rfl #[.pointer (some ⟨g, 0, none⟩), .int .i64 40] rfl (by (try simp only [List.map_toArray, List.map_cons, List.map_nil]); first | done | rfl | (simp only [List.length_drop, List.length_take]; rfl)) ?_; (with_reducible refine (spec_l1Cur_pick.calls g s0_0 x1001_1 x1002_1 40 t239 t240 t241 w0 _ ?side1 ?side2 A30.out).mono ?_); (case side1 => repeat (first | exact HI0.out | apply IsS102.alloc | apply IsS102.drewN | apply IsS102.drew | apply IsS102.set_1 | apply IsS102.set_2)); (case side2 => repeat (first | (with_reducible first | exact HB.out | apply za | apply zd | apply ze | refine below_set ?_ (IsS102.ge HI0.out)) | exact HB.out)); rintro e w51 ⟨rfl, hi, hb, hk⟩; refine ⟨_, rfl, ?_⟩; have n0_ := zk (Kd.R_mono (Kd.R_keep (IsS102.apart (show IsS102 w0 _ g s0_0 x1001_1 x1002_1 from by repeat (first | exact HI0.out | apply IsS102.alloc | apply IsS102.drewN | apply IsS102.drew | apply IsS102.set_1 | apply IsS102.set_2)) (by (with_reducible repeat (first | apply zs | apply zr | apply zt)); exact HO_3.out) (by decide)) hk (fun _ h => h.2)) (fun _ h => h.1)); have n1_ := zk (KeepBut.trans (by repeat (first | exact HK.out | apply KeepBut.set_ | apply keep_drewN | apply keep_drew | apply keep_alloc)) hk (.inl rfl)); have n2_ := zk (hb); have n3_ := zk (hi); clear HO_3; clear HK; clear HB; clear HI0; have HO_3 := n0_; have HK := n1_; have HB := n2_; have HI0 := n3_; clear n0_ n1_ n2_ n3_; (try clear hb); (try clear hb2); (try clear hk); (try clear hi)) | ((with_reducible refine gate_dst (N := 50) rfl ?_); refine Kd.R_lit (Kd.int .i64) _ 3 ?hg (N := 50) ?hd (xs := ([1, 2, 3, 4, 5, 6, 7, 8] : List Int)) (inner := [.int .i64 1, .int .i64 2, .int .i64 3, .int .i64 4, .int .i64 5, .int .i64 6, .int .i64 7, .int .i64 8]) (ok := fun _ => True) (okp := fun _ => True) ?hr ?hp (fun _ hk => hk) trivial (Below.refl _ _) (Nat.le_refl _) (by simp) ?_; (case hd => rfl); (case hg => rfl); (case hr => first | (go_simp; done) | (go_simp; rfl)); (case hp => exact (Reps.one (show Kd.M (Kd.int .i64) _ _ _ 1 [.int .i64 1] from rfl) (Reps.one (show Kd.M (Kd.int .i64) _ _ _ 2 [.int .i64 2] from rfl) (Reps.one (show Kd.M (Kd.int .i64) _ _ _ 3 [.int .i64 3] from rfl) (Reps.one (show Kd.M (Kd.int .i64) _ _ _ 4 [.int .i64 4] from rfl) (Reps.one (show Kd.M (Kd.int .i64) _ _ _ 5 [.int .i64 5] from rfl) (Reps.one (show Kd.M (Kd.int .i64) _ _ _ 6 [.int .i64 6] from rfl) (Reps.one (show Kd.M (Kd.int .i64) _ _ _ 7 [.int .i64 7] from rfl) (Reps.one (show Kd.M (Kd.int .i64) _ _ _ 8 [.int .i64 8] from rfl) (Reps.none _ _)))))))))); intro v256 w52 ho53 hb hg_ hnew_; clear hg_ hnew_; (first | rw [← Ny255.out] at ho53 | (simp only [Int.reduceToNat] at ho53; rw [← Ny255.out] at ho53)); have n0_ := zk (Kd.R_elder' (by (with_reducible repeat (first | apply zs | apply zr | apply zt)); exact HO_3.out) (Kd.R_base ho53) hb); have n1_ := zk (Kd.R_lower (Kd.R_new' ho53 (Kd.R_lt (by (with_reducible repeat (first | apply zs | apply zr | apply zt)); exact HO_3.out))) (keep_size (w := w) (g := g) (row := none) (by repeat (first | exact HK.out | apply KeepBut.set_ | apply keep_drewN | apply keep_drew | apply keep_alloc)))); have n2_ := zk (IsS102.below (by repeat (first | exact HI0.out | apply IsS102.alloc | apply IsS102.drewN | apply IsS102.drew | apply IsS102.set_1 | apply IsS102.set_2)) hb); have n3_ := zk (KeepBut.trans (by repeat (first | exact HK.out | apply KeepBut.set_ | apply keep_drewN | apply keep_drew | apply keep_alloc)) (KeepBut.of_below hb g none) (.inl rfl)); have n4_ := zk (below_step (by repeat (first | (with_reducible first | exact HB.out | apply za | apply zd | apply ze | refine below_set ?_ (IsS102.ge HI0.out)) | exact HB.out)) hb); clear HO_3; clear HI0; clear HK; clear HB; have HO_3 := n0_; have HO257 := n1_; have HI0 := n2_; have HK := n3_; have HB := n4_; clear n0_ n1_ n2_ n3_ n4_; clear hb ho53))
           go_ret
           exact ⟨_, by first | rfl | (simp [errW_none, errW_some] <;> rfl) | (simp [*, errW_none, errW_some] <;> rfl), by (with_reducible repeat (first | apply zs | apply zr | apply zt)); exact Kd.R_mono HO257.out (fun _ hk => trivial), by repeat (first | exact HI0.out | apply IsS102.alloc | apply IsS102.drewN | apply IsS102.drew | apply IsS102.set_1 | apply IsS102.set_2), by repeat (first | (with_reducible first | exact HB.out | apply za | apply zd | apply ze | refine below_set ?_ (IsS102.ge HI0.out)) | exact HB.out), by repeat (first | exact HK.out | apply KeepBut.set_ | apply keep_drewN | apply keep_drew | apply keep_alloc)⟩
         · rw [if_neg c50] at H
           have c50b0 : (t239 == 2) = false := beq_eq_false_iff_ne.mpr c50
           have c50b1 : (t239 != 2) = true := bne_iff_ne.mpr c50
           simp only [Option.some.injEq, Prod.mk.injEq] at H
           obtain ⟨rfl, rfl, rfl⟩ := H
           go_wp2_with (first | ((with_reducible refine gate_callee (f := 192) rfl ?_); refine goesL_ (some 33) rfl rfl Try.func192 (by kernel_rfl) rfl #[.pointer (some ⟨g, 0, none⟩), .int .i64 40] rfl (by (try simp only [List.map_toArray, List.map_cons, List.map_nil]); first | done | rfl | (simp only [List.length_drop, List.length_take]; rfl)) ?_; (with_reducible refine (spec_l1Cur_pick.calls g s0_0 x1001_1 x1002_1 40 t239 t240 t241 w0 _ ?side1 ?side2 A30.out).mono ?_); (case side1 => repeat (first | exact HI0.out | apply IsS102.alloc | apply IsS102.drewN | apply IsS102.drew | apply IsS102.set_1 | apply IsS102.set_2)); (case side2 => repeat (first | (with_reducible first | exact HB.out | apply za | apply zd | apply ze | refine below_set ?_ (IsS102.ge HI0.out)) | exact HB.out)); rintro e w54 ⟨rfl, hi, hb, hk⟩; refine ⟨_, rfl, ?_⟩; have n0_ := zk (Kd.R_mono (Kd.R_keep (IsS102.apart (show IsS102 w0 _ g s0_0 x1001_1 x1002_1 from by repeat (first | exact HI0.out | apply IsS102.alloc | apply IsS102.drewN | apply IsS102.drew | apply IsS102.set_1 | apply IsS102.set_2)) (by (with_reducible repeat (first | apply zs | apply zr | apply zt)); exact HO_3.out) (by decide)) hk (fun _ h => h.2)) (fun _ h => h.1)); have n1_ := zk (KeepBut.trans (by repeat (first | exact HK.out | apply KeepBut.set_ | apply keep_drewN | apply keep_drew | apply keep_alloc)) hk (.inl rfl)); have n2_ := zk (hb); have n3_ := zk (hi); clear HO_3; clear HK; clear HB; clear HI0; have HO_3 := n0_; have HK := n1_; have HB := n2_; have HI0 := n3_; clear n0_ n1_ n2_ n3_; (try clear hb); (try clear hb2); (try clear hk); (try clear hi)))
           go_ret
           exact ⟨_, by first | rfl | (simp [errW_none, errW_some] <;> rfl) | (simp [*, errW_none, errW_some] <;> rfl), by (with_reducible repeat (first | apply zs | apply zr | apply zt)); exact HO_3.out, by repeat (first | exact HI0.out | apply IsS102.alloc | apply IsS102.drewN | apply IsS102.drew | apply IsS102.set_1 | apply IsS102.set_2), by repeat (first | (with_reducible first | exact HB.out | apply za | apply zd | apply ze | refine below_set ?_ (IsS102.ge HI0.out)) | exact HB.out), by repeat (first | exact HK.out | apply KeepBut.set_ | apply keep_drewN | apply keep_drew | apply keep_alloc)⟩

/-! ### spec_l2Sorted: function 171 -/
def spec_l2Sorted.l0 : Nat → Int → List Int → Int → Option (List Int)
 | 0, _, _, _ => none
 | k + 1, x0, x3, x4 => if x4 ≤ x0 then (if x3.length < 17592186044416 then (spec_l2Sorted.l0 k x0 (x3 ++ [x4]) (wrap64 (x4 + 1))) else (none)) else (some x3)
def spec_l2Sorted.f (k : Nat) (a0 : Int) : Option (List Int) := spec_l2Sorted.l0 k a0 (([] : List Int)) 1
theorem spec_l2Sorted.mono_l : ∀ k, (∀ y0 y1 y2, LeO (spec_l2Sorted.l0 k y0 y1 y2) (spec_l2Sorted.l0 (k + 1) y0 y1 y2))
 | 0 => fun _ _ _ r h => by simp [spec_l2Sorted.l0] at h
 | k + 1 => by
  have ih0 := spec_l2Sorted.mono_l k
  · intro y0 y1 y2
    unfold spec_l2Sorted.l0
    repeat' first
    | (with_reducible exact ih0 _ _ _)
    | (with_reducible exact LeO.refl _)
    | (with_reducible exact LeO.none _)
    | (with_reducible refine LeO.ite ?_ ?_)
    | (with_reducible refine LeO.bind ?_ (fun _ => ?_))
    | exact ih0 _ _ _
    | exact LeO.none _
    | refine LeO.ite ?_ ?_
    | refine LeO.bind ?_ (fun _ => ?_)
theorem spec_l2Sorted.mono : ∀ a0 k, LeO (spec_l2Sorted.f k a0) (spec_l2Sorted.f (k + 1) a0) := by
 intro a0 k
 have ih0 := spec_l2Sorted.mono_l k
 unfold spec_l2Sorted.f
 repeat' first
  | (with_reducible exact ih0 _ _ _)
  | (with_reducible exact LeO.refl _)
  | (with_reducible exact LeO.none _)
  | (with_reducible refine LeO.ite ?_ ?_)
  | (with_reducible refine LeO.bind ?_ (fun _ => ?_))
  | exact ih0 _ _ _
  | exact LeO.none _
  | refine LeO.ite ?_ ?_
  | refine LeO.bind ?_ (fun _ => ?_)
set_option maxHeartbeats 8000000 in
set_option maxRecDepth 100000 in
theorem spec_l2Sorted.calls (k : Nat) (a0 : Int) (r : List Int) (w : World) (h : spec_l2Sorted.f k a0 = some r) :
 Calls Try.prog 171 #[.int .i64 a0] w fun e w' => ∃ v0_ : Value, e = .returned (v0_) ∧ Kd.R (Kd.int .i64) 3 w' w.heap.size (fun _ => True) v0_ r ∧ Below w.heap.size w w' := by
 have HB := zk (Below.refl w.heap.size w)
 have H : (spec_l2Sorted.l0 k a0 (([] : List Int)) 1) = some r := h
 clear h
 obtain ⟨y258, hy258⟩ : ∃ y_ : List Int, y_ = (([] : List Int)) := ⟨_, rfl⟩
 replace H : (spec_l2Sorted.l0 k a0 y258 1) = some r := by first | (rw [hy258]; with_reducible exact H) | (have H2_ := (Option.bind_some _ _).symm.trans H; rw [hy258]; with_reducible exact H2_) | (have H2_ := (Option.bind_some _ _).symm.trans H; with_reducible exact H2_) | with_reducible exact H | (rw [hy258]; exact H) | exact H
 have Ny258 := zk hy258
 clear hy258
 have H' := zk H
 clear H
 go_enter Try.func171, Try.ntmps171
 go_wp2_with (first | ((with_reducible refine gate_dst (N := 5) rfl ?_); refine Kd.R_lit (Kd.int .i64) _ 3 ?hg (N := 5) ?hd (xs := ([] : List Int)) (inner := []) (ok := fun _ => True) (okp := fun _ => True) ?hr ?hp (fun _ hk => hk) trivial (Below.refl _ _) (Nat.le_refl _) (by simp) ?_; (case hd => rfl); (case hg => rfl); (case hr => first | (go_simp; done) | (go_simp; rfl)); (case hp => exact (Reps.none _ _)); intro v259 w2 ho3 hb hg_ hnew_; clear hg_ hnew_; (first | rw [← Ny258.out] at ho3 | (simp only [Int.reduceToNat] at ho3; rw [← Ny258.out] at ho3)); have n0_ := zk (Kd.R_lower ho3 (below_size (by repeat (first | exact HB.out | apply za | apply zd | apply ze)))); have n1_ := zk (below_step (by repeat (first | exact HB.out | apply za | apply zd | apply ze)) hb); clear HB; have HO260 := n0_; have HB := n1_; clear n0_ n1_; clear hb ho3))
 go_loopg [3, 4] k (fun kq v3 v4 w' => ∃ (x3_1 : List Int) (x4_1 : Int), v4 = .int .i64 x4_1 ∧ Aside0 (spec_l2Sorted.l0 kq a0 x3_1 x4_1 = some r) ∧ Aside0 (kq ≤ k) ∧ Aside0 (Kd.R (Kd.int .i64) 3 w' w.heap.size (fun _ => True) v3 x3_1) ∧ Aside0 (Below w.heap.size w w'))
 case atStart => exact ⟨(y258), (1), (by first | rfl | (simp; done) | (simp [*]; done)), H', ⟨Nat.le_refl _⟩, ⟨by (with_reducible repeat (first | apply zs | apply zr | apply zt)); exact HO260.out⟩, ⟨by repeat (first | exact HB.out | apply za | apply zd | apply ze)⟩⟩
 case round =>
  clear H'
  try clear c1
  try clear p2
  obtain ⟨x3_1, x4_1, rfl, HA, HK1, HO_3, HB⟩ := hrel
  cases gk with
  | zero => exact absurd HA.out (by simp [spec_l2Sorted.l0])
  | succ k1 =>
   have H := HA.out
   clear HA
   simp only [spec_l2Sorted.l0] at H
   by_cases c4 : x4_1 ≤ a0
   · rw [if_pos c4] at H
     have c4b0 : decide (x4_1 ≤ a0) = true := decide_eq_true c4
     clear c4
     by_cases c5 : x3_1.length < 17592186044416
     · rw [if_pos c5] at H
       have LMc5 := zk c5
       clear c5
       obtain ⟨y261, hy261⟩ : ∃ y_ : List Int, y_ = (x3_1 ++ [x4_1]) := ⟨_, rfl⟩
       replace H : (spec_l2Sorted.l0 k1 a0 y261 (wrap64 (x4_1 + 1))) = some r := by first | (rw [hy261]; with_reducible exact H) | (have H2_ := (Option.bind_some _ _).symm.trans H; rw [hy261]; with_reducible exact H2_) | (have H2_ := (Option.bind_some _ _).symm.trans H; with_reducible exact H2_) | with_reducible exact H | (rw [hy261]; exact H) | exact H
       have Ny261 := zk hy261
       clear hy261
       have H' := zk H
       clear H
       go_wp2_with (first | ((with_reducible refine gate_builtin (b := .append) (xs := #[.tmp 11, .tmp 13]) rfl ?_); at_builtin; refine Kd.R_append (Kd.int .i64) (w0 := w) w.heap.size rfl (.tmp 11) (.tmp 13) 22 3 (.int .i64 0) 8 rfl Try.underlying22 info3 rfl (by decide) (by omega) u3 x3_1 x4_1 [.int .i64 x4_1] (fun _ => True) (fun _ => False) rfl rfl ?aP (fun _ hk => hk.elim) ?aF ?aO ?aB ?aS ?aL ?_; (case aP => exact rfl); (case aB => exact (by repeat (first | exact HB.out | apply za | apply zd | apply ze))); (case aF => exact (fun _ _ => trivial)); (case aO => exact (by (with_reducible repeat (first | apply zs | apply zr | apply zt)); exact HO_3.out)); (case aS => exact (below_size (by repeat (first | exact HB.out | apply za | apply zd | apply ze)))); (case aL => have := LMc5.out; omega); intro v262 w6 ho hb hg hat; rw [← Ny261.out] at ho; have n0_ := zk (hb); have n1_ := zk (ho); clear HB; clear HO_3; have HB := n0_; have HO263 := n1_; clear n0_ n1_; clear ho hb hg hat))
       go_roundg k1
       case measure => have := HK1.out; omega
       case rel => exact ⟨(y261), (wrap64 (x4_1 + 1)), (by first | rfl | (simp; done) | (simp [*]; done)), H', ⟨by have := HK1.out; omega⟩, ⟨by (with_reducible repeat (first | apply zs | apply zr | apply zt)); exact HO263.out⟩, ⟨by repeat (first | exact HB.out | apply za | apply zd | apply ze)⟩⟩
     · rw [if_neg c5] at H
       exact absurd H (by simp)
   · rw [if_neg c4] at H
     have c4b0 : decide (x4_1 ≤ a0) = false := decide_eq_false c4
     clear c4
     obtain rfl := Option.some.inj H
     go_wp2
     go_ret
     exact ⟨_, by first | rfl | (simp [errW_none, errW_some] <;> rfl) | (simp [*, errW_none, errW_some] <;> rfl), by (with_reducible repeat (first | apply zs | apply zr | apply zt)); exact HO_3.out, by repeat (first | exact HB.out | apply za | apply zd | apply ze)⟩

/-! ### spec_l2Inverse: function 180 -/
def spec_l2Inverse.l0 : Nat → List Int → List Int → Int → Option (List Int)
 | 0, _, _, _ => none
 | k + 1, x0, x3, x4 => if x4 < (x0.length : Int) then (if 0 ≤ x4 then (if 0 ≤ (wrap64 ((rd x0 x4) - 1)) then (if (wrap64 ((rd x0 x4) - 1)) < (x3.length : Int) then (spec_l2Inverse.l0 k x0 (x3.set ((wrap64 ((rd x0 x4) - 1)) : Int).toNat (wrap64 (x4 + 1))) (wrap64 (x4 + 1))) else (none)) else (none)) else (none)) else (some x3)
def spec_l2Inverse.f (k : Nat) (l0 : List Int) : Option (List Int) := if 0 ≤ (l0.length : Int) then (if ((l0.length : Int) : Int).toNat ≤ 35184372088832 then (spec_l2Inverse.l0 k l0 (List.replicate ((l0.length : Int) : Int).toNat 0) 0) else (none)) else (none)
theorem spec_l2Inverse.mono_l : ∀ k, (∀ y0 y1 y2, LeO (spec_l2Inverse.l0 k y0 y1 y2) (spec_l2Inverse.l0 (k + 1) y0 y1 y2))
 | 0 => fun _ _ _ r h => by simp [spec_l2Inverse.l0] at h
 | k + 1 => by
  have ih0 := spec_l2Inverse.mono_l k
  · intro y0 y1 y2
    unfold spec_l2Inverse.l0
    repeat' first
    | (with_reducible exact ih0 _ _ _)
    | (with_reducible exact LeO.refl _)
    | (with_reducible exact LeO.none _)
    | (with_reducible refine LeO.ite ?_ ?_)
    | (with_reducible refine LeO.bind ?_ (fun _ => ?_))
    | exact ih0 _ _ _
    | exact LeO.none _
    | refine LeO.ite ?_ ?_
    | refine LeO.bind ?_ (fun _ => ?_)
theorem spec_l2Inverse.mono : ∀ a0 k, LeO (spec_l2Inverse.f k a0) (spec_l2Inverse.f (k + 1) a0) := by
 intro a0 k
 have ih0 := spec_l2Inverse.mono_l k
 unfold spec_l2Inverse.f
 repeat' first
  | (with_reducible exact ih0 _ _ _)
  | (with_reducible exact LeO.refl _)
  | (with_reducible exact LeO.none _)
  | (with_reducible refine LeO.ite ?_ ?_)
  | (with_reducible refine LeO.bind ?_ (fun _ => ?_))
  | exact ih0 _ _ _
  | exact LeO.none _
  | refine LeO.ite ?_ ?_
  | refine LeO.bind ?_ (fun _ => ?_)
set_option maxHeartbeats 8000000 in
set_option maxRecDepth 100000 in
theorem spec_l2Inverse.calls (k : Nat) (A0 : Option Addr) (c0 : Nat) (l0 : List Int) (r : List Int) (w : World) (hr0 : Kd.C (Kd.int .i64) w A0 l0.length l0) (hc0 : l0.length ≤ c0) (h : spec_l2Inverse.f k l0 = some r) :
 Calls Try.prog 180 #[.slice A0 l0.length c0] w fun e w' => ∃ v0_ : Value, e = .returned (v0_) ∧ Kd.R (Kd.int .i64) 3 w' w.heap.size (fun _ => True) v0_ r ∧ Below w.heap.size w w' := by
 have HR0 := zk hr0
 have HC0 := zk hc0
 clear hr0 hc0
 have HB := zk (Below.refl w.heap.size w)
 have H : (if 0 ≤ (l0.length : Int) then (if ((l0.length : Int) : Int).toNat ≤ 35184372088832 then (spec_l2Inverse.l0 k l0 (List.replicate ((l0.length : Int) : Int).toNat 0) 0) else (none)) else (none)) = some r := h
 clear h
 by_cases c2 : 0 ≤ (l0.length : Int)
 · rw [if_pos c2] at H
   have c2b0 := eq_true c2
   have c2b1 : decide (0 ≤ (l0.length : Int)) = true := decide_eq_true c2
   clear c2
   by_cases c3 : ((l0.length : Int) : Int).toNat ≤ 35184372088832
   · rw [if_pos c3] at H
     have c3b0 := eq_true c3
     have c3b1 : decide (((l0.length : Int) : Int).toNat ≤ 35184372088832) = true := decide_eq_true c3
     clear c3
     obtain ⟨y264, hy264⟩ : ∃ y_ : List Int, y_ = (List.replicate ((l0.length : Int) : Int).toNat 0) := ⟨_, rfl⟩
     replace H : (spec_l2Inverse.l0 k l0 y264 0) = some r := by first | (rw [hy264]; with_reducible exact H) | (have H2_ := (Option.bind_some _ _).symm.trans H; rw [hy264]; with_reducible exact H2_) | (have H2_ := (Option.bind_some _ _).symm.trans H; with_reducible exact H2_) | with_reducible exact H | (rw [hy264]; exact H) | exact H
     have Ny264 := zk hy264
     clear hy264
     have H' := zk H
     clear H
     go_enter Try.func180, Try.ntmps180
     go_wp2_with (first | ((with_reducible refine gate_dst (N := 7) rfl ?_); refine Kd.R_make (Kd.int .i64) _ 3 rfl (N := 7) rfl 22 _ _ rfl (l0.length : Int) rfl rfl Try.underlying22 (.int .i64 0) 8 info3 rfl (by decide) (by omega) 0 (ok := fun _ => True) (okp := fun _ => True) rfl (fun _ hk => hk) trivial (zo (by assumption)) (Nat.le_trans (Nat.mul_le_mul_right _ (zo (by assumption) : (l0.length : Int).toNat ≤ 35184372088832)) (by omega)) (Below.refl _ _) (Nat.le_refl _) ?_; intro v265 w4 ho5 hb hg_ hnew_; clear hg_ hnew_; (first | rw [← Ny264.out] at ho5 | (simp only [Int.reduceToNat] at ho5; rw [← Ny264.out] at ho5)); have n0_ := zk (Kd.R_lower ho5 (below_size (by repeat (first | exact HB.out | apply za | apply zd | apply ze)))); have n1_ := zk (below_step (by repeat (first | exact HB.out | apply za | apply zd | apply ze)) hb); clear HB; have HO266 := n0_; have HB := n1_; clear n0_ n1_; clear hb ho5))
     go_loopg [4] k (fun kq v4 w' => ∃ (x3_1 : List Int) (x4_1 : Int), v4 = .int .i64 x4_1 ∧ Aside0 (spec_l2Inverse.l0 kq l0 x3_1 x4_1 = some r) ∧ Aside0 (kq ≤ k) ∧ Aside0 (Kd.R (Kd.int .i64) 3 w' w.heap.size (fun _ => True) v265 x3_1) ∧ Aside0 (Below w.heap.size w w'))
     case atStart => exact ⟨(y264), (0), (by first | rfl | (simp; done) | (simp [*]; done)), H', ⟨Nat.le_refl _⟩, ⟨by (with_reducible repeat (first | apply zs | apply zr | apply zt)); exact HO266.out⟩, ⟨by repeat (first | exact HB.out | apply za | apply zd | apply ze)⟩⟩
     case round =>
      clear H'
      try clear c1
      try clear c2
      try clear c2b0
      try clear c2b1
      try clear p2
      try clear c3
      try clear c3b0
      try clear c3b1
      obtain ⟨x3_1, x4_1, rfl, HA, HK1, HO_3, HB⟩ := hrel
      cases gk with
      | zero => exact absurd HA.out (by simp [spec_l2Inverse.l0])
      | succ k1 =>
       have H := HA.out
       clear HA
       simp only [spec_l2Inverse.l0] at H
       by_cases c6 : x4_1 < (l0.length : Int)
       · rw [if_pos c6] at H
         have c6b0 : decide (x4_1 < (l0.length : Int)) = true := decide_eq_true c6
         clear c6
         by_cases c7 : 0 ≤ x4_1
         · rw [if_pos c7] at H
           have c7b0 : decide (0 ≤ x4_1) = true := decide_eq_true c7
           clear c7
           obtain ⟨ji8, hji8⟩ : ∃ j_ : Int, (wrap64 ((rd l0 x4_1) - 1)) = j_ := ⟨_, rfl⟩
           replace H : (if 0 ≤ (ji8) then (if (ji8) < (x3_1.length : Int) then (spec_l2Inverse.l0 k1 l0 (x3_1.set ((ji8) : Int).toNat (wrap64 (x4_1 + 1))) (wrap64 (x4_1 + 1))) else (none)) else (none)) = some r := by first | (rw [hji8] at H; exact H) | (simp only [hji8] at H ⊢; exact H)
           have hji8w : (IntKind.i64.wrap ((rd l0 x4_1) - 1)) = ji8 := (i64_w _).trans hji8
           by_cases c9 : 0 ≤ (ji8)
           · rw [if_pos c9] at H
             have c9b0 : decide (0 ≤ (ji8)) = true := decide_eq_true c9
             clear c9
             by_cases c10 : (ji8) < (x3_1.length : Int)
             · rw [if_pos c10] at H
               have c10b0 : decide ((ji8) < (x3_1.length : Int)) = true := decide_eq_true c10
               clear c10
               obtain ⟨y268, hy268⟩ : ∃ y_ : List Int, y_ = (x3_1.set ((ji8) : Int).toNat (wrap64 (x4_1 + 1))) := ⟨_, rfl⟩
               replace H : (spec_l2Inverse.l0 k1 l0 y268 (wrap64 (x4_1 + 1))) = some r := by first | (rw [hy268]; with_reducible exact H) | (have H2_ := (Option.bind_some _ _).symm.trans H; rw [hy268]; with_reducible exact H2_) | (have H2_ := (Option.bind_some _ _).symm.trans H; with_reducible exact H2_) | with_reducible exact H | (rw [hy268]; exact H) | exact H
               have Ny268 := zk hy268
               clear hy268
               have H' := zk H
               clear H
               have p267 : 0 ≤ (x4_1 : Int) := zo (by assumption)
               have q267 : x4_1 < (l0.length : Int) := zo (by assumption)
               obtain ⟨ad267, e267, hx267_0⟩ := Kd.at_int HR0.out x4_1 p267 q267
               cases e267
               replace hx267_0 := (HB.out.cell (World.block_lt_of_cell? w _ hx267_0)).trans hx267_0
               replace p267 := eq_true p267
               replace q267 := eq_true q267
               have p11 : 0 ≤ ((ji8) : Int) := zo (by assumption)
               have q11 : ((ji8) : Int) < ((x3_1.length : Int) : Int) := zo (by assumption)
               obtain ⟨go11, co11, eo11, gb11, gl11, cl11, HG11⟩ := Kd.R_form HO_3.out (by omega)
               (first | cases eo11 | (injection eo11 with ea_ en_ ec_; (first | subst ea_ | (injection ea_ with ea_; subst ea_)); subst ec_; clear en_))
               have GB11 := zk gb11
               have GG11 := zk HG11
               clear gb11 gl11 HG11
               obtain ⟨hx11_0, hf11_0⟩ := Kd.R_celln 0 HO_3.out ((ji8) : Int) p11 q11
               replace p11 := eq_true p11
               replace q11 := eq_true q11
               have HP12 := Kd.R_putg HO_3.out ((ji8) : Int) (wrap64 (x4_1 + 1))
               go_wp2_with (first | ((with_reducible refine gate_store (t := 3) (p := 22) rfl ?_); refine store_event (t := 3) (p := 22) (v := ?vo_w13) (w1 := (wr.setCell ⟨go11, ((ji8) : Int).toNat, none⟩ (.int .i64 (wrap64 (x4_1 + 1))))) ?hg ?ho ?hn ?hr ?_; (case ho => rfl); (case hg => rfl); (case hn => rfl); (case hr => first | (go_simp; done) | (go_simp; rfl)); intro w13 hw; have hg : wr.grownBy w13 (some go11) := (by rw [hw]; exact HP12.2); have hp_ : Kd.R (Kd.int .i64) 3 w13 w.heap.size (fun _ => True) (.slice (some ⟨go11, 0, none⟩) x3_1.length co11) y268 := (by rw [hw, Ny268.out]; exact HP12.1); clear HP12; have n0_ := zk (hp_); have n1_ := zk ((by rw [hw]; exact below_set (HB.out) GB11.out : Below w.heap.size w w13)); clear HO_3; clear HB; have HO_3 := n0_; have HB := n1_; clear n0_ n1_; clear hg hw hp_))
               go_roundg k1
               case measure => have := HK1.out; omega
               case rel => exact ⟨(y268), (wrap64 (x4_1 + 1)), (by first | rfl | (simp; done) | (simp [*]; done)), H', ⟨by have := HK1.out; omega⟩, ⟨by (with_reducible repeat (first | apply zs | apply zr | apply zt)); exact HO_3.out⟩, ⟨by repeat (first | exact HB.out | apply za | apply zd | apply ze)⟩⟩
             · rw [if_neg c10] at H
               exact absurd H (by simp)
           · rw [if_neg c9] at H
             exact absurd H (by simp)
         · rw [if_neg c7] at H
           exact absurd H (by simp)
       · rw [if_neg c6] at H
         have c6b0 : decide (x4_1 < (l0.length : Int)) = false := decide_eq_false c6
         clear c6
         obtain rfl := Option.some.inj H
         go_wp2
         go_ret
         exact ⟨_, by first | rfl | (simp [errW_none, errW_some] <;> rfl) | (simp [*, errW_none, errW_some] <;> rfl), by (with_reducible repeat (first | apply zs | apply zr | apply zt)); exact HO_3.out, by repeat (first | exact HB.out | apply za | apply zd | apply ze)⟩
   · rw [if_neg c3] at H
     exact absurd H (by simp)
 · rw [if_neg c2] at H
   exact absurd H (by simp)

end Go.Proofs.Ytlkddcabjcejdaa.MFnOneStack
