/- Functions that FnContained comes to, a walk for each: by wip/tools/mk.py and post.py. No condition. -/
import Derived.Test.YtlkddcabjcejdaaMFnContainedx0
import Derived.Test.YtlkddcabjcejdaaMFnContainedx4
import Derived.Test.YtlkddcabjcejdaaMFnContainedx7
import Derived.Test.YtlkddcabjcejdaaMFnContainedx8
import Derived.Test.YtlkddcabjcejdaaMFnContainedx10
import Derived.Test.YtlkddcabjcejdaaMFnContainedx11
import Derived.Test.YtlkddcabjcejdaaMFnContainedx13
import Derived.Test.YtlkddcabjcejdaaMFnContainedx14
import Derived.Test.YtlkddcabjcejdaaMFnContainedx15
import Derived.Test.YtlkddcabjcejdaaMFnContainedx16
namespace Go.Proofs.Ytlkddcabjcejdaa.MFnContained
open Go.RowKit Go.Proofs.YtlkddcabjcejdaaW.PrintWords Go.Proofs.YtlkddcabjcejdaaW.PrintLast Go.Proofs.YtlkddcabjcejdaaW.PrintMore
attribute [local go_sem] max2_int min2_int max_two min_two max_three min_three max_four min_four
set_option linter.unusedVariables false
set_option linter.unusedSimpArgs false

/-! ### laws_FnContained: function 13 -/
section
open Go.Proofs.Ytlkddcabjcejdaa.Base
theorem led_V {α : Type} {d : Kd α} {e b : Nat} {W : World} {ok : Nat → Prop} {v : Value} {xs : List α} (h : Kd.V d e W b ok v xs) : ∃ A c, v = .slice A xs.length c ∧ Kd.V d e W 0 (fun _ => True) (.slice A xs.length c) xs := by
 obtain ⟨A, c, rfl⟩ := Kd.V_slice h
 exact ⟨A, c, rfl, Kd.V_mono h (fun _ _ => trivial)⟩
theorem led_R {α : Type} {d : Kd α} {e b : Nat} {W : World} {ok : Nat → Prop} {v : Value} {xs : List α} (h : Kd.R d e W b ok v xs) : ∃ A c, v = .slice A xs.length c ∧ Kd.V d e W 0 (fun _ => True) (.slice A xs.length c) xs := led_V (Kd.R_V (base' := 0) h)
theorem led_S {α : Type} {d : Kd α} {e b : Nat} {W : World} {ok : Nat → Prop} {v : Value} {xs : List α} (h : Kd.S d e W b ok v xs) : ∃ A c, v = .slice A xs.length c ∧ Kd.V d e W 0 (fun _ => True) (.slice A xs.length c) xs := led_V (Kd.S_V (base' := 0) h)
theorem led_N {α : Type} {d : Kd α} {e b : Nat} {W : World} {ok : Nat → Prop} {v : Value} {xs : List α} (h : Kd.N d e W b ok v xs) : ∃ A c, v = .slice A xs.length c ∧ Kd.V d e W 0 (fun _ => True) (.slice A xs.length c) xs := led_V (Kd.N_V (base' := 0) h)
theorem led_row {W : World} {A : Option Addr} {c : Nat} {e : TypeId} {rows : List (List Int)} (h : Kd.V (Kd.slice 3 (Kd.int .i64)) e W 0 (fun _ => True) (.slice A rows.length c) rows) (i : Nat) (hi : i < rows.length) : ∃ ad A' c', A = some ad ∧ W.cell? (ad.add i) = some (.slice A' (rows.getD i []).length c') ∧ Kd.V (Kd.int .i64) 3 W 0 (fun _ => True) (.slice A' (rows.getD i []).length c') (rows.getD i []) := by
 obtain ⟨ad, cs, e1, _, hK, hc, _⟩ := Kd.F_get (Kd.V_F h) ([] : List Int) (i : Int) (by omega) (by omega)
 obtain ⟨A', c', rfl, hl, hf⟩ := Kd.FK_slice_open hK
 have h0 := hc 0 _ rfl
 simp only [Int.toNat_natCast] at h0 hl hf
 rw [show (Kd.slice 3 (Kd.int .i64)).sz = 1 from rfl, Nat.mul_one, Nat.add_zero] at h0
 exact ⟨ad, A', c', e1, h0, Kd.V_mk hl hf⟩
theorem led_int {W : World} {A : Option Addr} {c : Nat} {e : TypeId} {xs : List Int} (h : Kd.V (Kd.int .i64) e W 0 (fun _ => True) (.slice A xs.length c) xs) (i : Nat) (hi : i < xs.length) : ∃ ad, A = some ad ∧ W.cell? (ad.add i) = some (.int .i64 (xs.getD i 0)) := by
 obtain ⟨ad, e1, hc⟩ := Kd.at_int (Kd.V_reads' h).2.2 (i : Int) (by omega) (by omega)
 rw [Int.toNat_natCast, show rd xs (i : Int) = xs.getD i 0 from rfl] at hc
 exact ⟨ad, e1, hc⟩
/-- What the calls of the law answer, and what the law asks of it. -/
structure laws_FnContained.Facts (l0 : List Int) (order pattern first drops d1 list shape d2 u pk left : List Int) (alls : List (List Int)) (hb_ : Nat → Bool) (rs : Nat → List Int) (k_ many : Int) (is ok fine one two three : Bool) : Prop where
 e1 : laws_vBig.f l0 = some false
 e2 : Ev (fun k => spec_DrawFirstPlaces.f k l0) ((order, pattern))
 e3 : Ev (fun k => impl_ContainsPattern.f k order pattern) ((is, ok))
 e4 : Ev (fun k => spec_ContainsPattern.f k order pattern) ((is, ok))
 e5 : Ev (fun k => impl_FirstPlaces.f k order pattern) ((first, fine))
 e6 : Ev (fun k => spec_FirstPlaces.f k order pattern) ((first, fine))
 e7 : Ev (fun k => impl_CountPlaces.f k order pattern) ((many, ok))
 e8 : Ev (fun k => spec_CountPlaces.f k order pattern) ((many, ok))
 e9 : impl_FewestDrops.f order pattern = some ((drops, one))
 e10 : Ev (fun k => spec_FewestDrops.f k order pattern) ((drops, one))
 e11 : laws_vCut.f l0 1 = some d1
 e12 : Ev (fun k => spec_DrawShapeOf.f k d1) list
 e13 : Ev (fun k => impl_ShapeOf.f k list) ((shape, two))
 e14 : Ev (fun k => spec_ShapeOf.f k list) ((shape, two))
 e15 : laws_vCut.f l0 2 = some d2
 e16 : Ev (fun k => spec_DrawPatternsIn.f k d2) ((u, k_))
 e17 : Ev (fun k => impl_PatternsIn.f k u k_) ((alls, three))
 e18 : Ev (fun k => spec_PatternsIn.f k u k_) ((alls, three))
 e19 : Ev (fun k => laws_vInts.f k first first) true
 e20 : Ev (fun k => laws_vInts.f k drops drops) true
 e21 : Ev (fun k => laws_vInts.f k shape shape) true
 e22 : Ev (fun k => laws_vLists.f k alls alls) true
 hfe : fine = (ok && is)
 his : ok = true → is = decide (many > 0)
 hfine : fine = true → Ev (fun k => laws_vPick.f k order first) pk ∧ Ev (fun k => impl_ShapeOf.f k pk) (pattern, true) ∧ Ev (fun k => laws_vInts.f k pattern pattern) true
 htwo : two = true → Ev (fun k => impl_ShapeOf.f k shape) (shape, true) ∧ Ev (fun k => impl_IsOrder.f k shape) true
 hthree : three = true → (∀ i, i < alls.length → Ev (fun k => impl_ContainsPattern.f k u (alls.getD i [])) (true, true) ∧ ((alls.getD i []).length : Int) = k_) ∧ (0 < alls.length ↔ k_ ≤ (u.length : Int)) ∧ alls.length ≤ 1048576
 hone : one = true → ((drops.length : Int) == 0) = !is ∧ (∀ i, i < order.length → Ev (fun k => laws_vHas.f k drops (i : Int)) (hb_ i) ∧ rs (i + 1) = (if hb_ i then rs i else rs i ++ [order.getD i 0]) ∧ (rs i).length ≤ 1000) ∧ (rs 0 = [] ∧ True) ∧ Ev (fun k => impl_ShapeOf.f k (rs order.length)) (left, true) ∧ Ev (fun k => impl_ContainsPattern.f k left pattern) (false, true) ∧ order.length ≤ 1000
set_option maxHeartbeats 16000000 in
set_option maxRecDepth 100000 in
theorem laws_FnContained.own (order pattern first drops d1 list shape d2 u pk left : List Int) (alls : List (List Int)) (hb_ : Nat → Bool) (rs : Nat → List Int) (k_ many : Int) (is ok fine one two three : Bool) (A0 : Option Addr) (c0 : Nat) (l0 : List Int) (w : World) (hr0 : Kd.C (Kd.int .u8) w A0 l0.length l0) (hc0 : l0.length ≤ c0) (HBG : laws_vBig.f l0 = some false) (F : laws_FnContained.Facts l0 order pattern first drops d1 list shape d2 u pk left alls hb_ rs k_ many is ok fine one two three) :
 Calls Try.prog 13 #[.slice A0 l0.length c0] w fun e w' => e = .returned (.bool true) ∧ Below w.heap.size w w' := by
 have HVc := zk hr0
 have HC0 := zk hc0
 have H0 := zk HBG
 have HB := zk (Below.refl w.heap.size w)
 have H1 := zk F.e1
 obtain ⟨n2, f2⟩ := F.e2
 have H2 := zk (f2 n2 (Nat.le_refl _))
 clear f2
 obtain ⟨n3, f3⟩ := F.e3
 have H3 := zk (f3 n3 (Nat.le_refl _))
 clear f3
 obtain ⟨n4, f4⟩ := F.e4
 have H4 := zk (f4 n4 (Nat.le_refl _))
 clear f4
 obtain ⟨n5, f5⟩ := F.e5
 have H5 := zk (f5 n5 (Nat.le_refl _))
 clear f5
 obtain ⟨n6, f6⟩ := F.e6
 have H6 := zk (f6 n6 (Nat.le_refl _))
 clear f6
 obtain ⟨n7, f7⟩ := F.e7
 have H7 := zk (f7 n7 (Nat.le_refl _))
 clear f7
 obtain ⟨n8, f8⟩ := F.e8
 have H8 := zk (f8 n8 (Nat.le_refl _))
 clear f8
 have H9 := zk F.e9
 obtain ⟨n10, f10⟩ := F.e10
 have H10 := zk (f10 n10 (Nat.le_refl _))
 clear f10
 have H11 := zk F.e11
 obtain ⟨n12, f12⟩ := F.e12
 have H12 := zk (f12 n12 (Nat.le_refl _))
 clear f12
 obtain ⟨n13, f13⟩ := F.e13
 have H13 := zk (f13 n13 (Nat.le_refl _))
 clear f13
 obtain ⟨n14, f14⟩ := F.e14
 have H14 := zk (f14 n14 (Nat.le_refl _))
 clear f14
 have H15 := zk F.e15
 obtain ⟨n16, f16⟩ := F.e16
 have H16 := zk (f16 n16 (Nat.le_refl _))
 clear f16
 obtain ⟨n17, f17⟩ := F.e17
 have H17 := zk (f17 n17 (Nat.le_refl _))
 clear f17
 obtain ⟨n18, f18⟩ := F.e18
 have H18 := zk (f18 n18 (Nat.le_refl _))
 clear f18
 obtain ⟨n19, f19⟩ := F.e19
 have H19 := zk (f19 n19 (Nat.le_refl _))
 clear f19
 obtain ⟨n20, f20⟩ := F.e20
 have H20 := zk (f20 n20 (Nat.le_refl _))
 clear f20
 obtain ⟨n21, f21⟩ := F.e21
 have H21 := zk (f21 n21 (Nat.le_refl _))
 clear f21
 obtain ⟨n22, f22⟩ := F.e22
 have H22 := zk (f22 n22 (Nat.le_refl _))
 clear f22
 have hfe := zk F.hfe
 have his := zk F.his
 have hfine := zk F.hfine
 have htwo := zk F.htwo
 have hthree := zk F.hthree
 have hone := zk F.hone
 clear hr0 hc0 HBG F
 go_enter Try.func13, Try.ntmps13
 go_wp2_with (fail)
 refine (laws_vBig.calls A0 c0 l0 false _ HVc.out HC0.out H1.out).mono ?_
 rintro e_ w1 ⟨rfl, hb1⟩
 replace hb1 := hb1.below
 replace HVc := zk (Kd.C_below HVc.out hb1)
 replace HB := zk (below_step HB.out hb1)
 clear hb1
 go_wp2_with (fail)
 refine (spec_DrawFirstPlaces.calls n2 A0 c0 l0 order pattern _ HVc.out HC0.out H2.out).mono ?_
 rintro e_ w2 ⟨v0_2, v1_2, rfl, hv0_2, hv1_2, hb2⟩
 obtain ⟨Ao, co, rfl, gv0_2⟩ := led_R hv0_2
 have HVo := zk gv0_2
 clear gv0_2 hv0_2
 obtain ⟨Ap, cp, rfl, gv1_2⟩ := led_R hv1_2
 have HVp := zk gv1_2
 clear gv1_2 hv1_2
 replace HVc := zk (Kd.C_below HVc.out hb2)
 replace HB := zk (below_step HB.out hb2)
 clear hb2
 go_wp2_with (fail)
 refine (impl_ContainsPattern.calls n3 Ao co order Ap cp pattern is ok _ (Kd.V_reads' HVo.out).2.2 (Kd.V_reads' HVo.out).2.1 (Kd.V_reads' HVp.out).2.2 (Kd.V_reads' HVp.out).2.1 H3.out).mono ?_
 rintro e_ w3 ⟨rfl, hb3⟩
 replace HVc := zk (Kd.C_below HVc.out hb3)
 replace HVo := zk (Kd.V_below HVo.out hb3)
 replace HVp := zk (Kd.V_below HVp.out hb3)
 replace HB := zk (below_step HB.out hb3)
 clear hb3
 go_wp2_with (fail)
 refine (spec_ContainsPattern.calls n4 Ao co order Ap cp pattern is ok _ (Kd.V_reads' HVo.out).2.2 (Kd.V_reads' HVo.out).2.1 (Kd.V_reads' HVp.out).2.2 (Kd.V_reads' HVp.out).2.1 H4.out).mono ?_
 rintro e_ w4 ⟨rfl, hb4⟩
 replace HVc := zk (Kd.C_below HVc.out hb4)
 replace HVo := zk (Kd.V_below HVo.out hb4)
 replace HVp := zk (Kd.V_below HVp.out hb4)
 replace HB := zk (below_step HB.out hb4)
 clear hb4
 go_wp2_with (fail)
 refine (impl_FirstPlaces.calls n5 Ao co order Ap cp pattern first fine _ (Kd.V_reads' HVo.out).2.2 (Kd.V_reads' HVo.out).2.1 (Kd.V_reads' HVp.out).2.2 (Kd.V_reads' HVp.out).2.1 H5.out).mono ?_
 rintro e_ w5 ⟨v0_5, rfl, hv0_5, hb5⟩
 obtain ⟨Af1, cf1, rfl, gv0_5⟩ := led_R hv0_5
 have HVf1 := zk gv0_5
 clear gv0_5 hv0_5
 replace HVc := zk (Kd.C_below HVc.out hb5)
 replace HVo := zk (Kd.V_below HVo.out hb5)
 replace HVp := zk (Kd.V_below HVp.out hb5)
 replace HB := zk (below_step HB.out hb5)
 clear hb5
 go_wp2_with (fail)
 refine (spec_FirstPlaces.calls n6 Ao co order Ap cp pattern first fine _ (Kd.V_reads' HVo.out).2.2 (Kd.V_reads' HVo.out).2.1 (Kd.V_reads' HVp.out).2.2 (Kd.V_reads' HVp.out).2.1 H6.out).mono ?_
 rintro e_ w6 ⟨v0_6, rfl, hv0_6, hb6⟩
 obtain ⟨Af2, cf2, rfl, gv0_6⟩ := led_V hv0_6
 have HVf2 := zk gv0_6
 clear gv0_6 hv0_6
 replace HVc := zk (Kd.C_below HVc.out hb6)
 replace HVo := zk (Kd.V_below HVo.out hb6)
 replace HVp := zk (Kd.V_below HVp.out hb6)
 replace HVf1 := zk (Kd.V_below HVf1.out hb6)
 replace HB := zk (below_step HB.out hb6)
 clear hb6
 go_wp2_with (fail)
 refine (impl_CountPlaces.calls n7 Ao co order Ap cp pattern many ok _ (Kd.V_reads' HVo.out).2.2 (Kd.V_reads' HVo.out).2.1 (Kd.V_reads' HVp.out).2.2 (Kd.V_reads' HVp.out).2.1 H7.out).mono ?_
 rintro e_ w7 ⟨rfl, hb7⟩
 replace HVc := zk (Kd.C_below HVc.out hb7)
 replace HVo := zk (Kd.V_below HVo.out hb7)
 replace HVp := zk (Kd.V_below HVp.out hb7)
 replace HVf1 := zk (Kd.V_below HVf1.out hb7)
 replace HVf2 := zk (Kd.V_below HVf2.out hb7)
 replace HB := zk (below_step HB.out hb7)
 clear hb7
 go_wp2_with (fail)
 refine (spec_CountPlaces.calls n8 Ao co order Ap cp pattern many ok _ (Kd.V_reads' HVo.out).2.2 (Kd.V_reads' HVo.out).2.1 (Kd.V_reads' HVp.out).2.2 (Kd.V_reads' HVp.out).2.1 H8.out).mono ?_
 rintro e_ w8 ⟨rfl, hb8⟩
 replace HVc := zk (Kd.C_below HVc.out hb8)
 replace HVo := zk (Kd.V_below HVo.out hb8)
 replace HVp := zk (Kd.V_below HVp.out hb8)
 replace HVf1 := zk (Kd.V_below HVf1.out hb8)
 replace HVf2 := zk (Kd.V_below HVf2.out hb8)
 replace HB := zk (below_step HB.out hb8)
 clear hb8
 go_wp2_with (fail)
 refine (impl_FewestDrops.calls Ao co order Ap cp pattern drops one _ (Kd.V_reads' HVo.out).2.2 (Kd.V_reads' HVo.out).2.1 (Kd.V_reads' HVp.out).2.2 (Kd.V_reads' HVp.out).2.1 H9.out).mono ?_
 rintro e_ w9 ⟨v0_9, rfl, hv0_9, hb9⟩
 obtain ⟨Ar1, cr1, rfl, gv0_9⟩ := led_R hv0_9
 have HVr1 := zk gv0_9
 clear gv0_9 hv0_9
 replace HVc := zk (Kd.C_below HVc.out hb9)
 replace HVo := zk (Kd.V_below HVo.out hb9)
 replace HVp := zk (Kd.V_below HVp.out hb9)
 replace HVf1 := zk (Kd.V_below HVf1.out hb9)
 replace HVf2 := zk (Kd.V_below HVf2.out hb9)
 replace HB := zk (below_step HB.out hb9)
 clear hb9
 go_wp2_with (fail)
 refine (spec_FewestDrops.calls n10 Ao co order Ap cp pattern drops one _ (Kd.V_reads' HVo.out).2.2 (Kd.V_reads' HVo.out).2.1 (Kd.V_reads' HVp.out).2.2 (Kd.V_reads' HVp.out).2.1 H10.out).mono ?_
 rintro e_ w10 ⟨v0_10, rfl, hv0_10, hb10⟩
 obtain ⟨Ar2, cr2, rfl, gv0_10⟩ := led_V hv0_10
 have HVr2 := zk gv0_10
 clear gv0_10 hv0_10
 replace HVc := zk (Kd.C_below HVc.out hb10)
 replace HVo := zk (Kd.V_below HVo.out hb10)
 replace HVp := zk (Kd.V_below HVp.out hb10)
 replace HVf1 := zk (Kd.V_below HVf1.out hb10)
 replace HVf2 := zk (Kd.V_below HVf2.out hb10)
 replace HVr1 := zk (Kd.V_below HVr1.out hb10)
 replace HB := zk (below_step HB.out hb10)
 clear hb10
 go_wp2_with (fail)
 refine (laws_vCut.calls A0 c0 l0 1 d1 _ HVc.out HC0.out H11.out).mono ?_
 rintro e_ w11 ⟨v0_11, rfl, hv0_11, hb11⟩
 obtain ⟨Ad1, cd1, rfl, gv0_11⟩ := led_R hv0_11
 have HVd1 := zk gv0_11
 clear gv0_11 hv0_11
 replace HVc := zk (Kd.C_below HVc.out hb11)
 replace HVo := zk (Kd.V_below HVo.out hb11)
 replace HVp := zk (Kd.V_below HVp.out hb11)
 replace HVf1 := zk (Kd.V_below HVf1.out hb11)
 replace HVf2 := zk (Kd.V_below HVf2.out hb11)
 replace HVr1 := zk (Kd.V_below HVr1.out hb11)
 replace HVr2 := zk (Kd.V_below HVr2.out hb11)
 replace HB := zk (below_step HB.out hb11)
 clear hb11
 go_wp2_with (fail)
 refine (spec_DrawShapeOf.calls n12 Ad1 cd1 d1 list _ (Kd.V_reads' HVd1.out).2.2 (Kd.V_reads' HVd1.out).2.1 H12.out).mono ?_
 rintro e_ w12 ⟨v0_12, rfl, hv0_12, hb12⟩
 obtain ⟨Al, cl, rfl, gv0_12⟩ := led_R hv0_12
 have HVl := zk gv0_12
 clear gv0_12 hv0_12
 replace HVc := zk (Kd.C_below HVc.out hb12)
 replace HVo := zk (Kd.V_below HVo.out hb12)
 replace HVp := zk (Kd.V_below HVp.out hb12)
 replace HVf1 := zk (Kd.V_below HVf1.out hb12)
 replace HVf2 := zk (Kd.V_below HVf2.out hb12)
 replace HVr1 := zk (Kd.V_below HVr1.out hb12)
 replace HVr2 := zk (Kd.V_below HVr2.out hb12)
 replace HVd1 := zk (Kd.V_below HVd1.out hb12)
 replace HB := zk (below_step HB.out hb12)
 clear hb12
 clear HVd1
 go_wp2_with (fail)
 refine (impl_ShapeOf.calls n13 Al cl list shape two _ (Kd.V_reads' HVl.out).2.2 (Kd.V_reads' HVl.out).2.1 H13.out).mono ?_
 rintro e_ w13 ⟨v0_13, rfl, hv0_13, hb13⟩
 obtain ⟨As1, cs1, rfl, gv0_13⟩ := led_R hv0_13
 have HVs1 := zk gv0_13
 clear gv0_13 hv0_13
 replace HVc := zk (Kd.C_below HVc.out hb13)
 replace HVo := zk (Kd.V_below HVo.out hb13)
 replace HVp := zk (Kd.V_below HVp.out hb13)
 replace HVf1 := zk (Kd.V_below HVf1.out hb13)
 replace HVf2 := zk (Kd.V_below HVf2.out hb13)
 replace HVr1 := zk (Kd.V_below HVr1.out hb13)
 replace HVr2 := zk (Kd.V_below HVr2.out hb13)
 replace HVl := zk (Kd.V_below HVl.out hb13)
 replace HB := zk (below_step HB.out hb13)
 clear hb13
 go_wp2_with (fail)
 refine (spec_ShapeOf.calls n14 Al cl list shape two _ (Kd.V_reads' HVl.out).2.2 (Kd.V_reads' HVl.out).2.1 H14.out).mono ?_
 rintro e_ w14 ⟨v0_14, rfl, hv0_14, hb14⟩
 obtain ⟨As2, cs2, rfl, gv0_14⟩ := led_R hv0_14
 have HVs2 := zk gv0_14
 clear gv0_14 hv0_14
 replace HVc := zk (Kd.C_below HVc.out hb14)
 replace HVo := zk (Kd.V_below HVo.out hb14)
 replace HVp := zk (Kd.V_below HVp.out hb14)
 replace HVf1 := zk (Kd.V_below HVf1.out hb14)
 replace HVf2 := zk (Kd.V_below HVf2.out hb14)
 replace HVr1 := zk (Kd.V_below HVr1.out hb14)
 replace HVr2 := zk (Kd.V_below HVr2.out hb14)
 replace HVl := zk (Kd.V_below HVl.out hb14)
 replace HVs1 := zk (Kd.V_below HVs1.out hb14)
 replace HB := zk (below_step HB.out hb14)
 clear hb14
 clear HVl
 go_wp2_with (fail)
 refine (laws_vCut.calls A0 c0 l0 2 d2 _ HVc.out HC0.out H15.out).mono ?_
 rintro e_ w15 ⟨v0_15, rfl, hv0_15, hb15⟩
 obtain ⟨Ad2, cd2, rfl, gv0_15⟩ := led_R hv0_15
 have HVd2 := zk gv0_15
 clear gv0_15 hv0_15
 replace HVc := zk (Kd.C_below HVc.out hb15)
 replace HVo := zk (Kd.V_below HVo.out hb15)
 replace HVp := zk (Kd.V_below HVp.out hb15)
 replace HVf1 := zk (Kd.V_below HVf1.out hb15)
 replace HVf2 := zk (Kd.V_below HVf2.out hb15)
 replace HVr1 := zk (Kd.V_below HVr1.out hb15)
 replace HVr2 := zk (Kd.V_below HVr2.out hb15)
 replace HVs1 := zk (Kd.V_below HVs1.out hb15)
 replace HVs2 := zk (Kd.V_below HVs2.out hb15)
 replace HB := zk (below_step HB.out hb15)
 clear hb15
 go_wp2_with (fail)
 refine (spec_DrawPatternsIn.calls n16 Ad2 cd2 d2 u k_ _ (Kd.V_reads' HVd2.out).2.2 (Kd.V_reads' HVd2.out).2.1 H16.out).mono ?_
 rintro e_ w16 ⟨v0_16, rfl, hv0_16, hb16⟩
 obtain ⟨Au, cu, rfl, gv0_16⟩ := led_R hv0_16
 have HVu := zk gv0_16
 clear gv0_16 hv0_16
 replace HVc := zk (Kd.C_below HVc.out hb16)
 replace HVo := zk (Kd.V_below HVo.out hb16)
 replace HVp := zk (Kd.V_below HVp.out hb16)
 replace HVf1 := zk (Kd.V_below HVf1.out hb16)
 replace HVf2 := zk (Kd.V_below HVf2.out hb16)
 replace HVr1 := zk (Kd.V_below HVr1.out hb16)
 replace HVr2 := zk (Kd.V_below HVr2.out hb16)
 replace HVs1 := zk (Kd.V_below HVs1.out hb16)
 replace HVs2 := zk (Kd.V_below HVs2.out hb16)
 replace HVd2 := zk (Kd.V_below HVd2.out hb16)
 replace HB := zk (below_step HB.out hb16)
 clear hb16
 clear HVd2
 clear HVc
 go_wp2_with (fail)
 refine (impl_PatternsIn.calls n17 Au cu u k_ alls three _ (Kd.V_reads' HVu.out).2.2 (Kd.V_reads' HVu.out).2.1 H17.out).mono ?_
 rintro e_ w17 ⟨v0_17, rfl, hv0_17, hb17⟩
 obtain ⟨Aa1, ca1, rfl, gv0_17⟩ := led_S hv0_17
 have HVa1 := zk gv0_17
 clear gv0_17 hv0_17
 replace HVo := zk (Kd.V_below HVo.out hb17)
 replace HVp := zk (Kd.V_below HVp.out hb17)
 replace HVf1 := zk (Kd.V_below HVf1.out hb17)
 replace HVf2 := zk (Kd.V_below HVf2.out hb17)
 replace HVr1 := zk (Kd.V_below HVr1.out hb17)
 replace HVr2 := zk (Kd.V_below HVr2.out hb17)
 replace HVs1 := zk (Kd.V_below HVs1.out hb17)
 replace HVs2 := zk (Kd.V_below HVs2.out hb17)
 replace HVu := zk (Kd.V_below HVu.out hb17)
 replace HB := zk (below_step HB.out hb17)
 clear hb17
 go_wp2_with (fail)
 refine (spec_PatternsIn.calls n18 Au cu u k_ alls three _ (Kd.V_reads' HVu.out).2.2 (Kd.V_reads' HVu.out).2.1 H18.out).mono ?_
 rintro e_ w18 ⟨v0_18, rfl, hv0_18, hb18⟩
 obtain ⟨Aa2, ca2, rfl, gv0_18⟩ := led_V hv0_18
 have HVa2 := zk gv0_18
 clear gv0_18 hv0_18
 replace HVo := zk (Kd.V_below HVo.out hb18)
 replace HVp := zk (Kd.V_below HVp.out hb18)
 replace HVf1 := zk (Kd.V_below HVf1.out hb18)
 replace HVf2 := zk (Kd.V_below HVf2.out hb18)
 replace HVr1 := zk (Kd.V_below HVr1.out hb18)
 replace HVr2 := zk (Kd.V_below HVr2.out hb18)
 replace HVs1 := zk (Kd.V_below HVs1.out hb18)
 replace HVs2 := zk (Kd.V_below HVs2.out hb18)
 replace HVu := zk (Kd.V_below HVu.out hb18)
 replace HVa1 := zk (Kd.V_below HVa1.out hb18)
 replace HB := zk (below_step HB.out hb18)
 clear hb18
 go_upto_region 18 with (fail)
 go_cut [214] from 131 to 214 (fun s214 wx1 => s214 = .bool false ∧ Aside0 (Below w18.heap.size w18 wx1))
 case first =>
  have HX := zk (Below.refl w18.heap.size w18)
  go_wp2_with (fail)
  refine (laws_vInts.calls n19 Af1 cf1 first Af2 cf2 first true _ (Kd.V_reads' HVf1.out).2.2 (Kd.V_reads' HVf1.out).2.1 (Kd.V_reads' HVf2.out).2.2 (Kd.V_reads' HVf2.out).2.1 H19.out).mono ?_
  rintro e_ w19 ⟨rfl, hb19⟩
  replace hb19 := hb19.below
  replace HVo := zk (Kd.V_below HVo.out hb19)
  replace HVp := zk (Kd.V_below HVp.out hb19)
  replace HVf1 := zk (Kd.V_below HVf1.out hb19)
  replace HVf2 := zk (Kd.V_below HVf2.out hb19)
  replace HVr1 := zk (Kd.V_below HVr1.out hb19)
  replace HVr2 := zk (Kd.V_below HVr2.out hb19)
  replace HVs1 := zk (Kd.V_below HVs1.out hb19)
  replace HVs2 := zk (Kd.V_below HVs2.out hb19)
  replace HVu := zk (Kd.V_below HVu.out hb19)
  replace HVa1 := zk (Kd.V_below HVa1.out hb19)
  replace HVa2 := zk (Kd.V_below HVa2.out hb19)
  replace HB := zk (below_step HB.out hb19)
  replace HX := zk (below_step HX.out hb19)
  clear hb19
  go_wp2_with (fail)
  refine (laws_vInts.calls n20 Ar1 cr1 drops Ar2 cr2 drops true _ (Kd.V_reads' HVr1.out).2.2 (Kd.V_reads' HVr1.out).2.1 (Kd.V_reads' HVr2.out).2.2 (Kd.V_reads' HVr2.out).2.1 H20.out).mono ?_
  rintro e_ w20 ⟨rfl, hb20⟩
  replace hb20 := hb20.below
  replace HVo := zk (Kd.V_below HVo.out hb20)
  replace HVp := zk (Kd.V_below HVp.out hb20)
  replace HVf1 := zk (Kd.V_below HVf1.out hb20)
  replace HVf2 := zk (Kd.V_below HVf2.out hb20)
  replace HVr1 := zk (Kd.V_below HVr1.out hb20)
  replace HVr2 := zk (Kd.V_below HVr2.out hb20)
  replace HVs1 := zk (Kd.V_below HVs1.out hb20)
  replace HVs2 := zk (Kd.V_below HVs2.out hb20)
  replace HVu := zk (Kd.V_below HVu.out hb20)
  replace HVa1 := zk (Kd.V_below HVa1.out hb20)
  replace HVa2 := zk (Kd.V_below HVa2.out hb20)
  replace HB := zk (below_step HB.out hb20)
  replace HX := zk (below_step HX.out hb20)
  clear hb20
  go_wp2_with (fail)
  refine (laws_vInts.calls n21 As1 cs1 shape As2 cs2 shape true _ (Kd.V_reads' HVs1.out).2.2 (Kd.V_reads' HVs1.out).2.1 (Kd.V_reads' HVs2.out).2.2 (Kd.V_reads' HVs2.out).2.1 H21.out).mono ?_
  rintro e_ w21 ⟨rfl, hb21⟩
  replace hb21 := hb21.below
  replace HVo := zk (Kd.V_below HVo.out hb21)
  replace HVp := zk (Kd.V_below HVp.out hb21)
  replace HVf1 := zk (Kd.V_below HVf1.out hb21)
  replace HVf2 := zk (Kd.V_below HVf2.out hb21)
  replace HVr1 := zk (Kd.V_below HVr1.out hb21)
  replace HVr2 := zk (Kd.V_below HVr2.out hb21)
  replace HVs1 := zk (Kd.V_below HVs1.out hb21)
  replace HVs2 := zk (Kd.V_below HVs2.out hb21)
  replace HVu := zk (Kd.V_below HVu.out hb21)
  replace HVa1 := zk (Kd.V_below HVa1.out hb21)
  replace HVa2 := zk (Kd.V_below HVa2.out hb21)
  replace HB := zk (below_step HB.out hb21)
  replace HX := zk (below_step HX.out hb21)
  clear hb21
  go_wp2_with (fail)
  refine (laws_vLists.calls n22 Aa1 ca1 alls Aa2 ca2 alls true _ (Kd.V_reads' HVa1.out).2.2 (Kd.V_reads' HVa1.out).2.1 (Kd.V_reads' HVa2.out).2.2 (Kd.V_reads' HVa2.out).2.1 H22.out).mono ?_
  rintro e_ w22 ⟨rfl, hb22⟩
  replace hb22 := hb22.below
  replace HVo := zk (Kd.V_below HVo.out hb22)
  replace HVp := zk (Kd.V_below HVp.out hb22)
  replace HVf1 := zk (Kd.V_below HVf1.out hb22)
  replace HVf2 := zk (Kd.V_below HVf2.out hb22)
  replace HVr1 := zk (Kd.V_below HVr1.out hb22)
  replace HVr2 := zk (Kd.V_below HVr2.out hb22)
  replace HVs1 := zk (Kd.V_below HVs1.out hb22)
  replace HVs2 := zk (Kd.V_below HVs2.out hb22)
  replace HVu := zk (Kd.V_below HVu.out hb22)
  replace HVa1 := zk (Kd.V_below HVa1.out hb22)
  replace HVa2 := zk (Kd.V_below HVa2.out hb22)
  replace HB := zk (below_step HB.out hb22)
  replace HX := zk (below_step HX.out hb22)
  clear hb22
  cases ok with
  | false =>
   obtain rfl : fine = false := hfe.out
   go_wp2_with (fail)
   go_meet
   exact ⟨rfl, HX⟩
  | true =>
   obtain rfl : fine = is := by have := hfe.out; simpa using this
   obtain rfl : fine = decide (many > 0) := his.out rfl
   go_wp2_with (fail)
   go_meet
   exact ⟨rfl, HX⟩
 case rest =>
  obtain ⟨rfl, HX1⟩ := hcut
  clear hfe his
  replace HVo := zk (Kd.V_below HVo.out HX1.out)
  replace HVp := zk (Kd.V_below HVp.out HX1.out)
  replace HVf1 := zk (Kd.V_below HVf1.out HX1.out)
  replace HVf2 := zk (Kd.V_below HVf2.out HX1.out)
  replace HVr1 := zk (Kd.V_below HVr1.out HX1.out)
  replace HVr2 := zk (Kd.V_below HVr2.out HX1.out)
  replace HVs1 := zk (Kd.V_below HVs1.out HX1.out)
  replace HVs2 := zk (Kd.V_below HVs2.out HX1.out)
  replace HVu := zk (Kd.V_below HVu.out HX1.out)
  replace HVa1 := zk (Kd.V_below HVa1.out HX1.out)
  replace HVa2 := zk (Kd.V_below HVa2.out HX1.out)
  replace HB := zk (below_step HB.out HX1.out)
  clear HX1
  clear HVf2
  clear HVr2
  clear HVs2
  clear HVa2
  go_upto_if 215 with (fail)
  go_cut [32, 33] from 216 to 230 (fun s32 s33 wx2 => Aside0 (Below wc.heap.size wc wx2))
  case first =>
   have HX := zk (Below.refl wc.heap.size wc)
   cases fine with
   | false =>
    go_wp2_with (fail)
    go_meet
    exact HX
   | true =>
    obtain ⟨h1, h2, h3⟩ := hfine.out rfl
    obtain ⟨ka, fka⟩ := h1
    have XA := zk (fka ka (Nat.le_refl _))
    clear fka
    obtain ⟨kb, fkb⟩ := h2
    have XB := zk (fkb kb (Nat.le_refl _))
    clear fkb
    obtain ⟨kc, fkc⟩ := h3
    have XC := zk (fkc kc (Nat.le_refl _))
    clear fkc
    go_wp2_with (fail)
    refine (laws_vPick.calls ka Ao co order Af1 cf1 first pk _ (Kd.V_reads' HVo.out).2.2 (Kd.V_reads' HVo.out).2.1 (Kd.V_reads' HVf1.out).2.2 (Kd.V_reads' HVf1.out).2.1 XA.out).mono ?_
    rintro e_ w19 ⟨v0_19, rfl, hv0_19, hb19⟩
    obtain ⟨Apk, cpk, rfl, gv0_19⟩ := led_R hv0_19
    have HVpk := zk gv0_19
    clear gv0_19 hv0_19
    replace HVo := zk (Kd.V_below HVo.out hb19)
    replace HVp := zk (Kd.V_below HVp.out hb19)
    replace HVf1 := zk (Kd.V_below HVf1.out hb19)
    replace HVr1 := zk (Kd.V_below HVr1.out hb19)
    replace HVs1 := zk (Kd.V_below HVs1.out hb19)
    replace HVu := zk (Kd.V_below HVu.out hb19)
    replace HVa1 := zk (Kd.V_below HVa1.out hb19)
    replace HB := zk (below_step HB.out hb19)
    replace HX := zk (below_step HX.out hb19)
    clear hb19
    go_wp2_with (fail)
    refine (impl_ShapeOf.calls kb Apk cpk pk pattern true _ (Kd.V_reads' HVpk.out).2.2 (Kd.V_reads' HVpk.out).2.1 XB.out).mono ?_
    rintro e_ w20 ⟨v0_20, rfl, hv0_20, hb20⟩
    obtain ⟨Aow, cow, rfl, gv0_20⟩ := led_R hv0_20
    have HVow := zk gv0_20
    clear gv0_20 hv0_20
    replace HVo := zk (Kd.V_below HVo.out hb20)
    replace HVp := zk (Kd.V_below HVp.out hb20)
    replace HVf1 := zk (Kd.V_below HVf1.out hb20)
    replace HVr1 := zk (Kd.V_below HVr1.out hb20)
    replace HVs1 := zk (Kd.V_below HVs1.out hb20)
    replace HVu := zk (Kd.V_below HVu.out hb20)
    replace HVa1 := zk (Kd.V_below HVa1.out hb20)
    replace HVpk := zk (Kd.V_below HVpk.out hb20)
    replace HB := zk (below_step HB.out hb20)
    replace HX := zk (below_step HX.out hb20)
    clear hb20
    go_wp2_with (fail)
    refine (laws_vInts.calls kc Aow cow pattern Ap cp pattern true _ (Kd.V_reads' HVow.out).2.2 (Kd.V_reads' HVow.out).2.1 (Kd.V_reads' HVp.out).2.2 (Kd.V_reads' HVp.out).2.1 XC.out).mono ?_
    rintro e_ w21 ⟨rfl, hb21⟩
    replace hb21 := hb21.below
    replace HVo := zk (Kd.V_below HVo.out hb21)
    replace HVp := zk (Kd.V_below HVp.out hb21)
    replace HVf1 := zk (Kd.V_below HVf1.out hb21)
    replace HVr1 := zk (Kd.V_below HVr1.out hb21)
    replace HVs1 := zk (Kd.V_below HVs1.out hb21)
    replace HVu := zk (Kd.V_below HVu.out hb21)
    replace HVa1 := zk (Kd.V_below HVa1.out hb21)
    replace HVpk := zk (Kd.V_below HVpk.out hb21)
    replace HVow := zk (Kd.V_below HVow.out hb21)
    replace HB := zk (below_step HB.out hb21)
    replace HX := zk (below_step HX.out hb21)
    clear hb21
    go_wp2_with (fail)
    go_meet
    exact HX
  case rest =>
   have HX2 := hcut
   clear hcut hfine
   replace HVo := zk (Kd.V_below HVo.out HX2.out)
   replace HVp := zk (Kd.V_below HVp.out HX2.out)
   replace HVf1 := zk (Kd.V_below HVf1.out HX2.out)
   replace HVr1 := zk (Kd.V_below HVr1.out HX2.out)
   replace HVs1 := zk (Kd.V_below HVs1.out HX2.out)
   replace HVu := zk (Kd.V_below HVu.out HX2.out)
   replace HVa1 := zk (Kd.V_below HVa1.out HX2.out)
   replace HB := zk (below_step HB.out HX2.out)
   clear HX2
   clear HVf1
   go_upto_if 231 with (fail)
   go_cut [34, 35] from 232 to 249 (fun s34 s35 wx3 => Aside0 (Below wc.heap.size wc wx3))
   case first =>
    have HX := zk (Below.refl wc.heap.size wc)
    cases two with
    | false =>
     go_wp2_with (fail)
     go_meet
     exact HX
    | true =>
     obtain ⟨h1, h3⟩ := htwo.out rfl
     obtain ⟨ka, fka⟩ := h1
     have XA := zk (fka ka (Nat.le_refl _))
     clear fka
     obtain ⟨kc, fkc⟩ := h3
     have XC := zk (fkc kc (Nat.le_refl _))
     clear fkc
     go_wp2_with (fail)
     refine (impl_ShapeOf.calls ka As1 cs1 shape shape true _ (Kd.V_reads' HVs1.out).2.2 (Kd.V_reads' HVs1.out).2.1 XA.out).mono ?_
     rintro e_ w19 ⟨v0_19, rfl, hv0_19, hb19⟩
     obtain ⟨Aag, cag, rfl, gv0_19⟩ := led_R hv0_19
     have HVag := zk gv0_19
     clear gv0_19 hv0_19
     replace HVo := zk (Kd.V_below HVo.out hb19)
     replace HVp := zk (Kd.V_below HVp.out hb19)
     replace HVr1 := zk (Kd.V_below HVr1.out hb19)
     replace HVs1 := zk (Kd.V_below HVs1.out hb19)
     replace HVu := zk (Kd.V_below HVu.out hb19)
     replace HVa1 := zk (Kd.V_below HVa1.out hb19)
     replace HB := zk (below_step HB.out hb19)
     replace HX := zk (below_step HX.out hb19)
     clear hb19
     go_wp2_with (fail)
     refine (laws_vInts.calls n21 Aag cag shape As1 cs1 shape true _ (Kd.V_reads' HVag.out).2.2 (Kd.V_reads' HVag.out).2.1 (Kd.V_reads' HVs1.out).2.2 (Kd.V_reads' HVs1.out).2.1 H21.out).mono ?_
     rintro e_ w20 ⟨rfl, hb20⟩
     replace hb20 := hb20.below
     replace HVo := zk (Kd.V_below HVo.out hb20)
     replace HVp := zk (Kd.V_below HVp.out hb20)
     replace HVr1 := zk (Kd.V_below HVr1.out hb20)
     replace HVs1 := zk (Kd.V_below HVs1.out hb20)
     replace HVu := zk (Kd.V_below HVu.out hb20)
     replace HVa1 := zk (Kd.V_below HVa1.out hb20)
     replace HVag := zk (Kd.V_below HVag.out hb20)
     replace HB := zk (below_step HB.out hb20)
     replace HX := zk (below_step HX.out hb20)
     clear hb20
     go_wp2_with (fail)
     refine (impl_IsOrder.calls kc As1 cs1 shape true _ (Kd.V_reads' HVs1.out).2.2 (Kd.V_reads' HVs1.out).2.1 XC.out).mono ?_
     rintro e_ w21 ⟨rfl, hb21⟩
     replace hb21 := hb21.below
     replace HVo := zk (Kd.V_below HVo.out hb21)
     replace HVp := zk (Kd.V_below HVp.out hb21)
     replace HVr1 := zk (Kd.V_below HVr1.out hb21)
     replace HVs1 := zk (Kd.V_below HVs1.out hb21)
     replace HVu := zk (Kd.V_below HVu.out hb21)
     replace HVa1 := zk (Kd.V_below HVa1.out hb21)
     replace HVag := zk (Kd.V_below HVag.out hb21)
     replace HB := zk (below_step HB.out hb21)
     replace HX := zk (below_step HX.out hb21)
     clear hb21
     go_wp2_with (fail)
     go_meet
     exact HX
   case rest =>
    have HX3 := hcut
    clear hcut htwo
    replace HVo := zk (Kd.V_below HVo.out HX3.out)
    replace HVp := zk (Kd.V_below HVp.out HX3.out)
    replace HVr1 := zk (Kd.V_below HVr1.out HX3.out)
    replace HVs1 := zk (Kd.V_below HVs1.out HX3.out)
    replace HVu := zk (Kd.V_below HVu.out HX3.out)
    replace HVa1 := zk (Kd.V_below HVa1.out HX3.out)
    replace HB := zk (below_step HB.out HX3.out)
    clear HX3
    clear HVs1
    go_upto_if 250 with (fail)
    go_cut [36, 37, 38] from 251 to 288 (fun s36 s37 s38 wx4 => Aside0 (Below wc.heap.size wc wx4))
    case first =>
     have HX := zk (Below.refl wc.heap.size wc)
     cases three with
     | false =>
      go_wp2_with (fail)
      go_meet
      exact HX
     | true =>
      obtain ⟨h1, h2, h3⟩ := hthree.out rfl
      have HT := zk h1
      have GH2 := zk h2
      have GH3 := zk h3
      clear h1 h2 h3
      go_wp2_with (fail)
      go_loopg [36] alls.length (fun kq v36 wr => ∃ (i : Nat), v36 = .int .i64 (i : Int) ∧ kq + i = alls.length ∧ Aside0 (Below wc.heap.size wc wr))
      case atStart => exact ⟨0, rfl, rfl, HX⟩
      case round =>
       obtain ⟨i, rfl, hk, HW⟩ := hrel
       have HK := zk hk
       clear hk HX
       replace HVo := zk (Kd.V_below HVo.out HW.out)
       replace HVp := zk (Kd.V_below HVp.out HW.out)
       replace HVr1 := zk (Kd.V_below HVr1.out HW.out)
       replace HVu := zk (Kd.V_below HVu.out HW.out)
       replace HVa1 := zk (Kd.V_below HVa1.out HW.out)
       replace HB := zk (below_step HB.out HW.out)
       cases gk with
       | zero =>
        obtain rfl : i = alls.length := by have := HK.out; omega
        have hlt : ¬ ((alls.length : Int) < (alls.length : Int)) := by omega
        by_cases hq : 0 < alls.length
        · have e1 : decide ((alls.length : Int) > 0) = true := decide_eq_true (by omega)
          have e2 : decide (0 < alls.length) = true := decide_eq_true (by omega)
          have e3 : decide (k_ ≤ (u.length : Int)) = true := decide_eq_true (by have := GH2.out; omega)
          clear hq HK
          go_wp2_with (fail)
          go_meet
          exact HW
        · have e1 : decide ((alls.length : Int) > 0) = false := decide_eq_false (by omega)
          have e2 : decide (0 < alls.length) = false := decide_eq_false (by omega)
          have e3 : decide (k_ ≤ (u.length : Int)) = false := decide_eq_false (by have := GH2.out; omega)
          clear hq HK
          go_wp2_with (fail)
          go_meet
          exact HW
       | succ n_ =>
        have hil : i < alls.length := by have := HK.out; omega
        have hlt : (i : Int) < (alls.length : Int) := by omega
        have hlt1 : decide ((i : Int) < (alls.length : Int)) = true := decide_eq_true hlt
        have hlt2 : decide (i < alls.length) = true := decide_eq_true hil
        have hi0 : (0 : Int) ≤ (i : Int) := by omega
        obtain ⟨e1, e2⟩ := HT.out i hil
        obtain ⟨ad, Ax, cx, ee, hx, hvx⟩ := led_row HVa1.out i hil
        cases ee
        obtain ⟨row, hrow⟩ : ∃ row, alls.getD i [] = row := ⟨_, rfl⟩
        rw [hrow] at e1 e2 hx hvx
        obtain ⟨ka, fka⟩ := e1
        have XA := zk (fka ka (Nat.le_refl _))
        clear fka
        have HVx := zk hvx
        have hrl : ((row.length : Int) != k_) = false := by rw [e2]; simp
        have HX5 := zk hx
        have hwi : wrap64 ((i : Int) + 1) = ((i + 1 : Nat) : Int) := by rw [wrap_of (by have := GH3.out; omega) (by have := GH3.out; omega)]; omega
        clear hvx hrow e2 hil
        have HQ := zk (Below.refl wr.heap.size wr)
        go_wp2_with (fail)
        refine (impl_ContainsPattern.calls ka Au cu u Ax cx row true true _ (Kd.V_reads' HVu.out).2.2 (Kd.V_reads' HVu.out).2.1 (Kd.V_reads' HVx.out).2.2 (Kd.V_reads' HVx.out).2.1 XA.out).mono ?_
        rintro e_ w19 ⟨rfl, hb19⟩
        replace HVo := zk (Kd.V_below HVo.out hb19)
        replace HVp := zk (Kd.V_below HVp.out hb19)
        replace HVr1 := zk (Kd.V_below HVr1.out hb19)
        replace HVu := zk (Kd.V_below HVu.out hb19)
        replace HVa1 := zk (Kd.V_below HVa1.out hb19)
        replace HVx := zk (Kd.V_below HVx.out hb19)
        replace HB := zk (below_step HB.out hb19)
        replace HW := zk (below_step HW.out hb19)
        replace HQ := zk (below_step HQ.out hb19)
        clear hb19
        have hx2 := (HQ.out.cell (World.block_lt_of_cell? _ _ HX5.out)).trans HX5.out
        skip
        go_wp2_with (fail)
        go_roundg n_
        case measure => simp
        case rel => exact ⟨i + 1, by first | rfl | exact congrArg _ hwi | simp [hwi], by have := HK.out; omega, HW⟩
    case rest =>
     have HX4 := hcut
     clear hcut hthree
     replace HVo := zk (Kd.V_below HVo.out HX4.out)
     replace HVp := zk (Kd.V_below HVp.out HX4.out)
     replace HVr1 := zk (Kd.V_below HVr1.out HX4.out)
     replace HVu := zk (Kd.V_below HVu.out HX4.out)
     replace HVa1 := zk (Kd.V_below HVa1.out HX4.out)
     replace HB := zk (below_step HB.out HX4.out)
     clear HX4
     clear HVa1
     clear HVu
     cases one with
     | false =>
      go_wp2_with (fail)
      go_ret
      exact ⟨rfl, HB.out⟩
     | true =>
      obtain ⟨h1, h2, h3, h4, h5, h6⟩ := hone.out rfl
      obtain ⟨ka, fka⟩ := h4
      have XA := zk (fka ka (Nat.le_refl _))
      clear fka
      obtain ⟨kb, fkb⟩ := h5
      have XB := zk (fkb kb (Nat.le_refl _))
      clear fkb
      have hd1 : (((drops.length : Int) == 0) == is) = false := by rw [h1]; cases is <;> rfl
      have HD := zk h1
      have HT := zk h2
      have GH3 := zk h3
      have GH6 := zk h6
      clear h1 h2 h3 h6
      cases is with
      | false =>
       have hd2 : ((drops.length : Int) == 0) = true := HD.out
       clear hd1 HD
       go_wp2_with (first | ((with_reducible refine gate_dst (N := 295) rfl ?_); refine zL 295 3 [] (Below.refl _ _) (Nat.le_refl _) ?_; intro v621 w3 ho4 hb hg_ hnew_; clear hg_ hnew_; have HR := zk ho4; have HBL := zk hb; clear hb ho4))
       go_loopg [39, 40] order.length (fun kq v39 v40 wr => ∃ (i : Nat), v40 = .int .i64 (i : Int) ∧ kq + i = order.length ∧ Aside0 (Kd.R (Kd.int .i64) 3 wr wc.heap.size (fun _ => True) v39 (rs i)) ∧ Aside0 (Below wc.heap.size wc wr))
       case atStart => exact ⟨0, rfl, by simp, by rw [GH3.out.1]; exact HR, HBL⟩
       case round =>
        obtain ⟨i, rfl, hk, HRi, HW⟩ := hrel
        have HK := zk hk
        clear hk HR HBL
        replace HVo := zk (Kd.V_below HVo.out HW.out)
        replace HVp := zk (Kd.V_below HVp.out HW.out)
        replace HVr1 := zk (Kd.V_below HVr1.out HW.out)
        replace HB := zk (below_step HB.out HW.out)
        cases gk with
        | zero =>
         obtain rfl : i = order.length := by have := HK.out; omega
         have hlt : ¬ ((order.length : Int) < (order.length : Int)) := by omega
         clear HK
         obtain ⟨Ar, cr, er, hvr⟩ := led_R HRi.out
         first | subst er | (injection er with e1_ _ e2_; subst e1_; subst e2_)
         have HVz := zk hvr
         clear hvr HRi
         go_wp2_with (fail)
         refine (impl_ShapeOf.calls ka Ar cr ((rs order.length)) left true _ (Kd.V_reads' HVz.out).2.2 (Kd.V_reads' HVz.out).2.1 XA.out).mono ?_
         rintro e_ w19 ⟨v0_19, rfl, hv0_19, hb19⟩
         obtain ⟨Alf, clf, rfl, gv0_19⟩ := led_R hv0_19
         have HVlf := zk gv0_19
         clear gv0_19 hv0_19
         replace HVo := zk (Kd.V_below HVo.out hb19)
         replace HVp := zk (Kd.V_below HVp.out hb19)
         replace HVr1 := zk (Kd.V_below HVr1.out hb19)
         replace HVz := zk (Kd.V_below HVz.out hb19)
         replace HB := zk (below_step HB.out hb19)
         replace HW := zk (below_step HW.out hb19)
         clear hb19
         go_wp2_with (fail)
         refine (impl_ContainsPattern.calls kb Alf clf left Ap cp pattern false true _ (Kd.V_reads' HVlf.out).2.2 (Kd.V_reads' HVlf.out).2.1 (Kd.V_reads' HVp.out).2.2 (Kd.V_reads' HVp.out).2.1 XB.out).mono ?_
         rintro e_ w20 ⟨rfl, hb20⟩
         replace HVo := zk (Kd.V_below HVo.out hb20)
         replace HVp := zk (Kd.V_below HVp.out hb20)
         replace HVr1 := zk (Kd.V_below HVr1.out hb20)
         replace HVz := zk (Kd.V_below HVz.out hb20)
         replace HVlf := zk (Kd.V_below HVlf.out hb20)
         replace HB := zk (below_step HB.out hb20)
         replace HW := zk (below_step HW.out hb20)
         clear hb20
         go_wp2_with (fail)
         go_ret
         exact ⟨rfl, HB.out⟩
        | succ n_ =>
         have hil : i < order.length := by have := HK.out; omega
         have hlt : (i : Int) < (order.length : Int) := by omega
         have hlt1 : decide ((i : Int) < (order.length : Int)) = true := decide_eq_true hlt
         have hlt2 : decide (i < order.length) = true := decide_eq_true hil
         have hi0 : (0 : Int) ≤ (i : Int) := by omega
         obtain ⟨e1, e2, e3⟩ := HT.out i hil
         obtain ⟨kc, fkc⟩ := e1
         have XC := zk (fkc kc (Nat.le_refl _))
         clear fkc
         have hwi : wrap64 ((i : Int) + 1) = ((i + 1 : Nat) : Int) := by rw [wrap_of (by have := GH6.out; omega) (by have := GH6.out; omega)]; omega
         have HE2 := zk e2
         have HE3 := zk e3
         clear e2 e3
         have HWQ := zk (Below.refl wr.heap.size wr)
         go_wp2_with (fail)
         refine (laws_vHas.calls kc Ar1 cr1 drops ((i : Int)) ((hb_ i)) _ (Kd.V_reads' HVr1.out).2.2 (Kd.V_reads' HVr1.out).2.1 XC.out).mono ?_
         rintro e_ w19 ⟨rfl, hb19⟩
         replace hb19 := hb19.below
         replace HVo := zk (Kd.V_below HVo.out hb19)
         replace HVp := zk (Kd.V_below HVp.out hb19)
         replace HVr1 := zk (Kd.V_below HVr1.out hb19)
         replace HB := zk (below_step HB.out hb19)
         replace HW := zk (below_step HW.out hb19)
         replace HWQ := zk (below_step HWQ.out hb19)
         clear hb19
         replace HRi := zk (Kd.R_below HRi.out HWQ.out)
         obtain ⟨b, hb⟩ : ∃ b, hb_ i = b := ⟨_, rfl⟩
         rw [hb]
         have HS := HE2.out
         rw [hb] at HS
         clear hb HE2
         cases b with
         | true =>
          have HS2 := zk (show rs (i + 1) = rs i from by simpa using HS)
          clear HS
          go_wp2_with (fail)
          go_roundg n_
          case measure => simp
          case rel => exact ⟨i + 1, by first | rfl | exact congrArg _ hwi | simp [hwi], by have := HK.out; omega, by rw [HS2.out]; exact HRi, HW⟩
         | false =>
          obtain ⟨vo, hvo⟩ : ∃ v, order.getD i 0 = v := ⟨_, rfl⟩
          have HS2 := zk (show rs (i + 1) = rs i ++ [vo] from by rw [← hvo]; simpa using HS)
          obtain ⟨ad, ea, ha⟩ := led_int HVo.out i hil
          cases ea
          rw [hvo] at ha
          clear HS hvo hil
          go_wp2_with (first | ((with_reducible refine gate_builtin (b := .append) (xs := #[.tmp 306, .tmp 311]) rfl ?_); at_builtin; refine Kd.R_append (Kd.int .i64) (w0 := wc) wc.heap.size rfl (.tmp 306) (.tmp 311) 22 3 (.int .i64 0) 8 rfl Try.underlying22 info3 rfl (by decide) (by omega) u39 (rs i) vo [.int .i64 vo] (fun _ => True) (fun _ => False) rfl rfl ?aP (fun _ hk => hk.elim) ?aF ?aO ?aB ?aS ?aL ?_; (case aP => exact rfl); (case aB => exact (zB HW)); (case aF => exact (fun _ _ => trivial)); (case aO => exact (zR HRi)); (case aS => exact (below_size (zB HW))); (case aL => have := HE3.out; omega); intro v628 w11 ho hbq hg hat; have HO629 := zk ho; have HWN := zk hbq; clear ho hbq hg hat))
          go_roundg n_
          case measure => simp
          case rel => exact ⟨i + 1, by first | rfl | exact congrArg _ hwi | simp [hwi], by have := HK.out; omega, by rw [HS2.out]; exact HO629, HWN⟩
      | true =>
       have hd2 : ((drops.length : Int) == 0) = false := HD.out
       clear hd1 HD
       go_wp2_with (first | ((with_reducible refine gate_dst (N := 295) rfl ?_); refine zL 295 3 [] (Below.refl _ _) (Nat.le_refl _) ?_; intro v621 w3 ho4 hb hg_ hnew_; clear hg_ hnew_; have HR := zk ho4; have HBL := zk hb; clear hb ho4))
       go_loopg [39, 40] order.length (fun kq v39 v40 wr => ∃ (i : Nat), v40 = .int .i64 (i : Int) ∧ kq + i = order.length ∧ Aside0 (Kd.R (Kd.int .i64) 3 wr wc.heap.size (fun _ => True) v39 (rs i)) ∧ Aside0 (Below wc.heap.size wc wr))
       case atStart => exact ⟨0, rfl, by simp, by rw [GH3.out.1]; exact HR, HBL⟩
       case round =>
        obtain ⟨i, rfl, hk, HRi, HW⟩ := hrel
        have HK := zk hk
        clear hk HR HBL
        replace HVo := zk (Kd.V_below HVo.out HW.out)
        replace HVp := zk (Kd.V_below HVp.out HW.out)
        replace HVr1 := zk (Kd.V_below HVr1.out HW.out)
        replace HB := zk (below_step HB.out HW.out)
        cases gk with
        | zero =>
         obtain rfl : i = order.length := by have := HK.out; omega
         have hlt : ¬ ((order.length : Int) < (order.length : Int)) := by omega
         clear HK
         obtain ⟨Ar, cr, er, hvr⟩ := led_R HRi.out
         first | subst er | (injection er with e1_ _ e2_; subst e1_; subst e2_)
         have HVz := zk hvr
         clear hvr HRi
         go_wp2_with (fail)
         refine (impl_ShapeOf.calls ka Ar cr ((rs order.length)) left true _ (Kd.V_reads' HVz.out).2.2 (Kd.V_reads' HVz.out).2.1 XA.out).mono ?_
         rintro e_ w19 ⟨v0_19, rfl, hv0_19, hb19⟩
         obtain ⟨Alf, clf, rfl, gv0_19⟩ := led_R hv0_19
         have HVlf := zk gv0_19
         clear gv0_19 hv0_19
         replace HVo := zk (Kd.V_below HVo.out hb19)
         replace HVp := zk (Kd.V_below HVp.out hb19)
         replace HVr1 := zk (Kd.V_below HVr1.out hb19)
         replace HVz := zk (Kd.V_below HVz.out hb19)
         replace HB := zk (below_step HB.out hb19)
         replace HW := zk (below_step HW.out hb19)
         clear hb19
         go_wp2_with (fail)
         refine (impl_ContainsPattern.calls kb Alf clf left Ap cp pattern false true _ (Kd.V_reads' HVlf.out).2.2 (Kd.V_reads' HVlf.out).2.1 (Kd.V_reads' HVp.out).2.2 (Kd.V_reads' HVp.out).2.1 XB.out).mono ?_
         rintro e_ w20 ⟨rfl, hb20⟩
         replace HVo := zk (Kd.V_below HVo.out hb20)
         replace HVp := zk (Kd.V_below HVp.out hb20)
         replace HVr1 := zk (Kd.V_below HVr1.out hb20)
         replace HVz := zk (Kd.V_below HVz.out hb20)
         replace HVlf := zk (Kd.V_below HVlf.out hb20)
         replace HB := zk (below_step HB.out hb20)
         replace HW := zk (below_step HW.out hb20)
         clear hb20
         go_wp2_with (fail)
         go_ret
         exact ⟨rfl, HB.out⟩
        | succ n_ =>
         have hil : i < order.length := by have := HK.out; omega
         have hlt : (i : Int) < (order.length : Int) := by omega
         have hlt1 : decide ((i : Int) < (order.length : Int)) = true := decide_eq_true hlt
         have hlt2 : decide (i < order.length) = true := decide_eq_true hil
         have hi0 : (0 : Int) ≤ (i : Int) := by omega
         obtain ⟨e1, e2, e3⟩ := HT.out i hil
         obtain ⟨kc, fkc⟩ := e1
         have XC := zk (fkc kc (Nat.le_refl _))
         clear fkc
         have hwi : wrap64 ((i : Int) + 1) = ((i + 1 : Nat) : Int) := by rw [wrap_of (by have := GH6.out; omega) (by have := GH6.out; omega)]; omega
         have HE2 := zk e2
         have HE3 := zk e3
         clear e2 e3
         have HWQ := zk (Below.refl wr.heap.size wr)
         go_wp2_with (fail)
         refine (laws_vHas.calls kc Ar1 cr1 drops ((i : Int)) ((hb_ i)) _ (Kd.V_reads' HVr1.out).2.2 (Kd.V_reads' HVr1.out).2.1 XC.out).mono ?_
         rintro e_ w19 ⟨rfl, hb19⟩
         replace hb19 := hb19.below
         replace HVo := zk (Kd.V_below HVo.out hb19)
         replace HVp := zk (Kd.V_below HVp.out hb19)
         replace HVr1 := zk (Kd.V_below HVr1.out hb19)
         replace HB := zk (below_step HB.out hb19)
         replace HW := zk (below_step HW.out hb19)
         replace HWQ := zk (below_step HWQ.out hb19)
         clear hb19
         replace HRi := zk (Kd.R_below HRi.out HWQ.out)
         obtain ⟨b, hb⟩ : ∃ b, hb_ i = b := ⟨_, rfl⟩
         rw [hb]
         have HS := HE2.out
         rw [hb] at HS
         clear hb HE2
         cases b with
         | true =>
          have HS2 := zk (show rs (i + 1) = rs i from by simpa using HS)
          clear HS
          go_wp2_with (fail)
          go_roundg n_
          case measure => simp
          case rel => exact ⟨i + 1, by first | rfl | exact congrArg _ hwi | simp [hwi], by have := HK.out; omega, by rw [HS2.out]; exact HRi, HW⟩
         | false =>
          obtain ⟨vo, hvo⟩ : ∃ v, order.getD i 0 = v := ⟨_, rfl⟩
          have HS2 := zk (show rs (i + 1) = rs i ++ [vo] from by rw [← hvo]; simpa using HS)
          obtain ⟨ad, ea, ha⟩ := led_int HVo.out i hil
          cases ea
          rw [hvo] at ha
          clear HS hvo hil
          go_wp2_with (first | ((with_reducible refine gate_builtin (b := .append) (xs := #[.tmp 306, .tmp 311]) rfl ?_); at_builtin; refine Kd.R_append (Kd.int .i64) (w0 := wc) wc.heap.size rfl (.tmp 306) (.tmp 311) 22 3 (.int .i64 0) 8 rfl Try.underlying22 info3 rfl (by decide) (by omega) u39 (rs i) vo [.int .i64 vo] (fun _ => True) (fun _ => False) rfl rfl ?aP (fun _ hk => hk.elim) ?aF ?aO ?aB ?aS ?aL ?_; (case aP => exact rfl); (case aB => exact (zB HW)); (case aF => exact (fun _ _ => trivial)); (case aO => exact (zR HRi)); (case aS => exact (below_size (zB HW))); (case aL => have := HE3.out; omega); intro v628 w11 ho hbq hg hat; have HO629 := zk ho; have HWN := zk hbq; clear ho hbq hg hat))
          go_roundg n_
          case measure => simp
          case rel => exact ⟨i + 1, by first | rfl | exact congrArg _ hwi | simp [hwi], by have := HK.out; omega, by rw [HS2.out]; exact HO629, HWN⟩
/-- THE ONE PURE STATEMENT of laws_FnContained. -/
def laws_FnContained.Pure : Prop := ∀ (l0 : List Int), l0.length ≤ maxLen → l0.length * 1 ≤ 140737488351232 → (∀ x ∈ l0, (Lit.int .u8 x).wf = true) → laws_vBig.f l0 = some true ∨ laws_vBig.f l0 = some false ∧ ∃ (order pattern first drops d1 list shape d2 u pk left : List Int) (alls : List (List Int)) (hb_ : Nat → Bool) (rs : Nat → List Int) (k_ many : Int) (is ok fine one two three : Bool), laws_FnContained.Facts l0 order pattern first drops d1 list shape d2 u pk left alls hb_ rs k_ many is ok fine one two three
set_option maxHeartbeats 8000000 in
set_option maxRecDepth 100000 in
theorem laws_FnContained.big (A0 : Option Addr) (c0 : Nat) (l0 : List Int) (w : World) (hr0 : Kd.C (Kd.int .u8) w A0 l0.length l0) (hc0 : l0.length ≤ c0) (HBG : laws_vBig.f l0 = some true) :
 Calls Try.prog 13 #[.slice A0 l0.length c0] w fun e w' => e = .returned (.bool true) ∧ Below w.heap.size w w' := by
 have HG := zk HBG
 clear HBG
 go_enter Try.func13, Try.ntmps13
 go_wp2_with (fail)
 refine (laws_vBig.calls A0 c0 l0 true _ hr0 hc0 HG.out).mono ?_
 rintro e_ w1 ⟨rfl, hb1⟩
 replace hb1 := hb1.below
 go_wp2_with (fail)
 go_ret
 exact ⟨rfl, hb1⟩
theorem laws_FnContained.walk (P : laws_FnContained.Pure) (a0 : Option Addr) (len0 cap0 : Nat) (z0 : List Int) (w : World) (w0 : (a0 = none ∧ len0 = 0 ∧ cap0 = 0 ∧ z0 = []) ∨ ∃ x, a0 = some x ∧ len0 ≤ cap0 ∧ cap0 ≤ maxLen ∧ z0.length = cap0 ∧ (∀ i, i < z0.length → w.cell? (x.add i) = some (.int .u8 (z0.getD i 0))) ∧ ∀ n ∈ z0, (Lit.int .u8 n).wf = true) (y0 : len0 * 1 ≤ 140737488351232) :
 Calls Try.prog 13 #[.slice a0 len0 cap0] w fun e w' => e = .returned (.bool true) ∧ Below w.heap.size w w' := by
 obtain ⟨l0, rfl, hr0, hm0, hw0, hc0⟩ := ReadsInt.ofRowC w0
 rcases P l0 hm0 y0 hw0 with h | ⟨h, order, pattern, first, drops, d1, list, shape, d2, u, pk, left, alls, hb_, rs, k_, many, is, ok, fine, one, two, three, F⟩
 · exact laws_FnContained.big _ _ l0 w (Kd.C_of_reads (d := (0 : Int)) (h1 := fun _ => rfl) hr0) hc0 h
 · exact laws_FnContained.own order pattern first drops d1 list shape d2 u pk left alls hb_ rs k_ many is ok fine one two three _ _ l0 w (Kd.C_of_reads (d := (0 : Int)) (h1 := fun _ => rfl) hr0) hc0 h F
end

end Go.Proofs.Ytlkddcabjcejdaa.MFnContained
