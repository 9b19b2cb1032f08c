/- Functions that FnAvoiding comes to, a walk for each: by wip/tools/mk.py and post.py. No condition. -/
import Derived.Test.YtlkddcabjcejdaaMFnAvoidingx0
import Derived.Test.YtlkddcabjcejdaaMFnAvoidingx1
import Derived.Test.YtlkddcabjcejdaaMFnAvoidingx3
import Derived.Test.YtlkddcabjcejdaaMFnAvoidingx6
import Derived.Test.YtlkddcabjcejdaaMFnAvoidingx9
import Derived.Test.YtlkddcabjcejdaaMFnAvoidingx10
import Derived.Test.YtlkddcabjcejdaaMFnAvoidingx11
import Derived.Test.YtlkddcabjcejdaaMFnAvoidingx12
import Derived.Test.YtlkddcabjcejdaaMFnAvoidingx14
import Derived.Test.YtlkddcabjcejdaaMFnAvoidingx15
namespace Go.Proofs.Ytlkddcabjcejdaa.MFnAvoiding
open Go.RowKit Go.Proofs.YtlkddcabjcejdaaW.PrintWords Go.Proofs.YtlkddcabjcejdaaW.PrintLast Go.Proofs.YtlkddcabjcejdaaW.PrintMore
attribute [local go_sem] max2_int min2_int max_two min_two max_three min_three max_four min_four
set_option linter.unusedVariables false
set_option linter.unusedSimpArgs false

/-! ### laws_FnAvoiding: function 12 -/
section
open Go.Proofs.Ytlkddcabjcejdaa.Base
theorem led_V {α : Type} {d : Kd α} {e b : Nat} {W : World} {ok : Nat → Prop} {v : Value} {xs : List α} (h : Kd.V d e W b ok v xs) : ∃ A c, v = .slice A xs.length c ∧ Kd.V d e W 0 (fun _ => True) (.slice A xs.length c) xs := by
 obtain ⟨A, c, rfl⟩ := Kd.V_slice h
 exact ⟨A, c, rfl, Kd.V_mono h (fun _ _ => trivial)⟩
theorem led_R {α : Type} {d : Kd α} {e b : Nat} {W : World} {ok : Nat → Prop} {v : Value} {xs : List α} (h : Kd.R d e W b ok v xs) : ∃ A c, v = .slice A xs.length c ∧ Kd.V d e W 0 (fun _ => True) (.slice A xs.length c) xs := led_V (Kd.R_V (base' := 0) h)
theorem led_S {α : Type} {d : Kd α} {e b : Nat} {W : World} {ok : Nat → Prop} {v : Value} {xs : List α} (h : Kd.S d e W b ok v xs) : ∃ A c, v = .slice A xs.length c ∧ Kd.V d e W 0 (fun _ => True) (.slice A xs.length c) xs := led_V (Kd.S_V (base' := 0) h)
theorem led_N {α : Type} {d : Kd α} {e b : Nat} {W : World} {ok : Nat → Prop} {v : Value} {xs : List α} (h : Kd.N d e W b ok v xs) : ∃ A c, v = .slice A xs.length c ∧ Kd.V d e W 0 (fun _ => True) (.slice A xs.length c) xs := led_V (Kd.N_V (base' := 0) h)
theorem led_row {W : World} {A : Option Addr} {c : Nat} {e : TypeId} {rows : List (List Int)} (h : Kd.V (Kd.slice 3 (Kd.int .i64)) e W 0 (fun _ => True) (.slice A rows.length c) rows) (i : Nat) (hi : i < rows.length) : ∃ ad A' c', A = some ad ∧ W.cell? (ad.add i) = some (.slice A' (rows.getD i []).length c') ∧ Kd.V (Kd.int .i64) 3 W 0 (fun _ => True) (.slice A' (rows.getD i []).length c') (rows.getD i []) := by
 obtain ⟨ad, cs, e1, _, hK, hc, _⟩ := Kd.F_get (Kd.V_F h) ([] : List Int) (i : Int) (by omega) (by omega)
 obtain ⟨A', c', rfl, hl, hf⟩ := Kd.FK_slice_open hK
 have h0 := hc 0 _ rfl
 simp only [Int.toNat_natCast] at h0 hl hf
 rw [show (Kd.slice 3 (Kd.int .i64)).sz = 1 from rfl, Nat.mul_one, Nat.add_zero] at h0
 exact ⟨ad, A', c', e1, h0, Kd.V_mk hl hf⟩
theorem led_int {W : World} {A : Option Addr} {c : Nat} {e : TypeId} {xs : List Int} (h : Kd.V (Kd.int .i64) e W 0 (fun _ => True) (.slice A xs.length c) xs) (i : Nat) (hi : i < xs.length) : ∃ ad, A = some ad ∧ W.cell? (ad.add i) = some (.int .i64 (xs.getD i 0)) := by
 obtain ⟨ad, e1, hc⟩ := Kd.at_int (Kd.V_reads' h).2.2 (i : Int) (by omega) (by omega)
 rw [Int.toNat_natCast, show rd xs (i : Int) = xs.getD i 0 from rfl] at hc
 exact ⟨ad, e1, hc⟩
/-- What the calls of the law answer, and what the law asks of it. -/
structure laws_FnAvoiding.Facts (l0 : List Int) (first d1 order d2 u made pattern best : List Int) (pats lst : List (List Int)) (nx : Nat → List Int) (av : Nat → Bool) (sm : Nat → Int) (n many kids k_ m most : Int) (ok fine there avoids one two three : Bool) : Prop where
 e1 : laws_vBig.f l0 = some false
 e2 : Ev (fun k => spec_DrawCountAvoiding.f k l0) ((n, pats))
 e3 : Ev (fun k => impl_CountAvoiding.f k n pats) ((many, ok))
 e4 : Ev (fun k => spec_CountAvoiding.f k n pats) ((many, ok))
 e5 : Ev (fun k => impl_FirstAvoiding.f k n pats) ((first, fine))
 e6 : Ev (fun k => spec_FirstAvoiding.f k n pats) ((first, fine))
 e7 : laws_vCut.f l0 1 = some d1
 e8 : Ev (fun k => spec_DrawCountChildren.f k d1) ((order, lst))
 e9 : Ev (fun k => impl_CountChildren.f k order lst) ((kids, there))
 e10 : Ev (fun k => spec_CountChildren.f k order lst) ((kids, there))
 e11 : Ev (fun k => impl_AvoidsAll.f k order lst) ((avoids, one))
 e12 : Ev (fun k => spec_AvoidsAll.f k order lst) ((avoids, one))
 e13 : laws_vCut.f l0 2 = some d2
 e14 : Ev (fun k => spec_DrawInsertLast.f k d2) ((u, k_))
 e15 : Ev (fun k => impl_InsertLast.f k u k_) ((made, two))
 e16 : Ev (fun k => spec_InsertLast.f k u k_) ((made, two))
 e17 : Ev (fun k => spec_DrawMostPlaces.f k l0) ((m, pattern))
 e18 : Ev (fun k => impl_MostPlaces.f k m pattern) ((best, most, three))
 e19 : Ev (fun k => spec_MostPlaces.f k m pattern) ((best, most, three))
 e20 : Ev (fun k => laws_vInts.f k first first) true
 e21 : Ev (fun k => laws_vInts.f k made made) true
 e22 : Ev (fun k => laws_vInts.f k best best) true
 hfe : fine = (ok && decide (many > 0))
 hto : there = true → one = true
 hfine : fine = true → Ev (fun k => impl_AvoidsAll.f k first pats) (true, true) ∧ (first.length : Int) = n
 htwo : two = true → Ev (fun k => impl_ShapeOf.f k (made.take (made.length - 1))) (u, true) ∧ Ev (fun k => laws_vInts.f k u u) true ∧ 0 < made.length ∧ made.length ≤ 1000 ∧ made.getD (made.length - 1) 0 = k_ ∧ Ev (fun k => impl_IsOrder.f k made) true
 hthere : there = true → (∀ i, i ≤ order.length → Ev (fun k => impl_InsertLast.f k order ((i : Int) + 1)) (nx i, true) ∧ Ev (fun k => impl_AvoidsAll.f k (nx i) lst) (av i, true) ∧ (av i = true → avoids = true) ∧ sm (i + 1) = sm i + (if av i then 1 else 0) ∧ 0 ≤ sm i ∧ sm i ≤ 100000) ∧ sm 0 = 0 ∧ sm (order.length + 1) = kids ∧ order.length ≤ 1000
 hthree : three = true → Ev (fun k => impl_CountPlaces.f k best pattern) (most, true) ∧ (best.length : Int) = m
set_option maxHeartbeats 16000000 in
set_option maxRecDepth 100000 in
theorem laws_FnAvoiding.own (first d1 order d2 u made pattern best : List Int) (pats lst : List (List Int)) (nx : Nat → List Int) (av : Nat → Bool) (sm : Nat → Int) (n many kids k_ m most : Int) (ok fine there avoids one two three : Bool) (A0 : Option Addr) (c0 : Nat) (l0 : List Int) (w : World) (hr0 : Kd.C (Kd.int .u8) w A0 l0.length l0) (hc0 : l0.length ≤ c0) (HBG : laws_vBig.f l0 = some false) (F : laws_FnAvoiding.Facts l0 first d1 order d2 u made pattern best pats lst nx av sm n many kids k_ m most ok fine there avoids one two three) :
 Calls Try.prog 12 #[.slice A0 l0.length c0] w fun e w' => e = .returned (.bool true) ∧ Below w.heap.size w w' := by
 have HVc := zk hr0
 have HC0 := zk hc0
 have H0 := zk HBG
 have HB := zk (Below.refl w.heap.size w)
 have H1 := zk F.e1
 obtain ⟨n2, f2⟩ := F.e2
 have H2 := zk (f2 n2 (Nat.le_refl _))
 clear f2
 obtain ⟨n3, f3⟩ := F.e3
 have H3 := zk (f3 n3 (Nat.le_refl _))
 clear f3
 obtain ⟨n4, f4⟩ := F.e4
 have H4 := zk (f4 n4 (Nat.le_refl _))
 clear f4
 obtain ⟨n5, f5⟩ := F.e5
 have H5 := zk (f5 n5 (Nat.le_refl _))
 clear f5
 obtain ⟨n6, f6⟩ := F.e6
 have H6 := zk (f6 n6 (Nat.le_refl _))
 clear f6
 have H7 := zk F.e7
 obtain ⟨n8, f8⟩ := F.e8
 have H8 := zk (f8 n8 (Nat.le_refl _))
 clear f8
 obtain ⟨n9, f9⟩ := F.e9
 have H9 := zk (f9 n9 (Nat.le_refl _))
 clear f9
 obtain ⟨n10, f10⟩ := F.e10
 have H10 := zk (f10 n10 (Nat.le_refl _))
 clear f10
 obtain ⟨n11, f11⟩ := F.e11
 have H11 := zk (f11 n11 (Nat.le_refl _))
 clear f11
 obtain ⟨n12, f12⟩ := F.e12
 have H12 := zk (f12 n12 (Nat.le_refl _))
 clear f12
 have H13 := zk F.e13
 obtain ⟨n14, f14⟩ := F.e14
 have H14 := zk (f14 n14 (Nat.le_refl _))
 clear f14
 obtain ⟨n15, f15⟩ := F.e15
 have H15 := zk (f15 n15 (Nat.le_refl _))
 clear f15
 obtain ⟨n16, f16⟩ := F.e16
 have H16 := zk (f16 n16 (Nat.le_refl _))
 clear f16
 obtain ⟨n17, f17⟩ := F.e17
 have H17 := zk (f17 n17 (Nat.le_refl _))
 clear f17
 obtain ⟨n18, f18⟩ := F.e18
 have H18 := zk (f18 n18 (Nat.le_refl _))
 clear f18
 obtain ⟨n19, f19⟩ := F.e19
 have H19 := zk (f19 n19 (Nat.le_refl _))
 clear f19
 obtain ⟨n20, f20⟩ := F.e20
 have H20 := zk (f20 n20 (Nat.le_refl _))
 clear f20
 obtain ⟨n21, f21⟩ := F.e21
 have H21 := zk (f21 n21 (Nat.le_refl _))
 clear f21
 obtain ⟨n22, f22⟩ := F.e22
 have H22 := zk (f22 n22 (Nat.le_refl _))
 clear f22
 have hfe := zk F.hfe
 have hto := zk F.hto
 have hfine := zk F.hfine
 have htwo := zk F.htwo
 have hthere := zk F.hthere
 have hthree := zk F.hthree
 clear hr0 hc0 HBG F
 go_enter Try.func12, Try.ntmps12
 go_wp2_with (fail)
 refine (laws_vBig.calls A0 c0 l0 false _ HVc.out HC0.out H1.out).mono ?_
 rintro e_ w1 ⟨rfl, hb1⟩
 replace hb1 := hb1.below
 replace HVc := zk (Kd.C_below HVc.out hb1)
 replace HB := zk (below_step HB.out hb1)
 clear hb1
 go_wp2_with (fail)
 refine (spec_DrawCountAvoiding.calls n2 A0 c0 l0 n pats _ HVc.out HC0.out H2.out).mono ?_
 rintro e_ w2 ⟨v1_2, rfl, hv1_2, hb2⟩
 obtain ⟨Ap, cp, rfl, gv1_2⟩ := led_S hv1_2
 have HVp := zk gv1_2
 clear gv1_2 hv1_2
 replace HVc := zk (Kd.C_below HVc.out hb2)
 replace HB := zk (below_step HB.out hb2)
 clear hb2
 go_wp2_with (fail)
 refine (impl_CountAvoiding.calls n3 n Ap cp pats many ok _ (Kd.V_reads' HVp.out).2.2 (Kd.V_reads' HVp.out).2.1 H3.out).mono ?_
 rintro e_ w3 ⟨rfl, hb3⟩
 replace HVc := zk (Kd.C_below HVc.out hb3)
 replace HVp := zk (Kd.V_below HVp.out hb3)
 replace HB := zk (below_step HB.out hb3)
 clear hb3
 go_wp2_with (fail)
 refine (spec_CountAvoiding.calls n4 n Ap cp pats many ok _ (Kd.V_reads' HVp.out).2.2 (Kd.V_reads' HVp.out).2.1 H4.out).mono ?_
 rintro e_ w4 ⟨rfl, hb4⟩
 replace HVc := zk (Kd.C_below HVc.out hb4)
 replace HVp := zk (Kd.V_below HVp.out hb4)
 replace HB := zk (below_step HB.out hb4)
 clear hb4
 go_wp2_with (fail)
 refine (impl_FirstAvoiding.calls n5 n Ap cp pats first fine _ (Kd.V_reads' HVp.out).2.2 (Kd.V_reads' HVp.out).2.1 H5.out).mono ?_
 rintro e_ w5 ⟨v0_5, rfl, hv0_5, hb5⟩
 obtain ⟨Af1, cf1, rfl, gv0_5⟩ := led_R hv0_5
 have HVf1 := zk gv0_5
 clear gv0_5 hv0_5
 replace HVc := zk (Kd.C_below HVc.out hb5)
 replace HVp := zk (Kd.V_below HVp.out hb5)
 replace HB := zk (below_step HB.out hb5)
 clear hb5
 go_wp2_with (fail)
 refine (spec_FirstAvoiding.calls n6 n Ap cp pats first fine _ (Kd.V_reads' HVp.out).2.2 (Kd.V_reads' HVp.out).2.1 H6.out).mono ?_
 rintro e_ w6 ⟨v0_6, rfl, hv0_6, hb6⟩
 obtain ⟨Af2, cf2, rfl, gv0_6⟩ := led_V hv0_6
 have HVf2 := zk gv0_6
 clear gv0_6 hv0_6
 replace HVc := zk (Kd.C_below HVc.out hb6)
 replace HVp := zk (Kd.V_below HVp.out hb6)
 replace HVf1 := zk (Kd.V_below HVf1.out hb6)
 replace HB := zk (below_step HB.out hb6)
 clear hb6
 go_wp2_with (fail)
 refine (laws_vCut.calls A0 c0 l0 1 d1 _ HVc.out HC0.out H7.out).mono ?_
 rintro e_ w7 ⟨v0_7, rfl, hv0_7, hb7⟩
 obtain ⟨Ad1, cd1, rfl, gv0_7⟩ := led_R hv0_7
 have HVd1 := zk gv0_7
 clear gv0_7 hv0_7
 replace HVc := zk (Kd.C_below HVc.out hb7)
 replace HVp := zk (Kd.V_below HVp.out hb7)
 replace HVf1 := zk (Kd.V_below HVf1.out hb7)
 replace HVf2 := zk (Kd.V_below HVf2.out hb7)
 replace HB := zk (below_step HB.out hb7)
 clear hb7
 go_wp2_with (fail)
 refine (spec_DrawCountChildren.calls n8 Ad1 cd1 d1 order lst _ (Kd.V_reads' HVd1.out).2.2 (Kd.V_reads' HVd1.out).2.1 H8.out).mono ?_
 rintro e_ w8 ⟨v0_8, v1_8, rfl, hv0_8, hv1_8, hb8⟩
 obtain ⟨Ao, co, rfl, gv0_8⟩ := led_R hv0_8
 have HVo := zk gv0_8
 clear gv0_8 hv0_8
 obtain ⟨Al, cl, rfl, gv1_8⟩ := led_S hv1_8
 have HVl := zk gv1_8
 clear gv1_8 hv1_8
 replace HVc := zk (Kd.C_below HVc.out hb8)
 replace HVp := zk (Kd.V_below HVp.out hb8)
 replace HVf1 := zk (Kd.V_below HVf1.out hb8)
 replace HVf2 := zk (Kd.V_below HVf2.out hb8)
 replace HVd1 := zk (Kd.V_below HVd1.out hb8)
 replace HB := zk (below_step HB.out hb8)
 clear hb8
 clear HVd1
 go_wp2_with (fail)
 refine (impl_CountChildren.calls n9 Ao co order Al cl lst kids there _ (Kd.V_reads' HVo.out).2.2 (Kd.V_reads' HVo.out).2.1 (Kd.V_reads' HVl.out).2.2 (Kd.V_reads' HVl.out).2.1 H9.out).mono ?_
 rintro e_ w9 ⟨rfl, hb9⟩
 replace HVc := zk (Kd.C_below HVc.out hb9)
 replace HVp := zk (Kd.V_below HVp.out hb9)
 replace HVf1 := zk (Kd.V_below HVf1.out hb9)
 replace HVf2 := zk (Kd.V_below HVf2.out hb9)
 replace HVo := zk (Kd.V_below HVo.out hb9)
 replace HVl := zk (Kd.V_below HVl.out hb9)
 replace HB := zk (below_step HB.out hb9)
 clear hb9
 go_wp2_with (fail)
 refine (spec_CountChildren.calls n10 Ao co order Al cl lst kids there _ (Kd.V_reads' HVo.out).2.2 (Kd.V_reads' HVo.out).2.1 (Kd.V_reads' HVl.out).2.2 (Kd.V_reads' HVl.out).2.1 H10.out).mono ?_
 rintro e_ w10 ⟨rfl, hb10⟩
 replace HVc := zk (Kd.C_below HVc.out hb10)
 replace HVp := zk (Kd.V_below HVp.out hb10)
 replace HVf1 := zk (Kd.V_below HVf1.out hb10)
 replace HVf2 := zk (Kd.V_below HVf2.out hb10)
 replace HVo := zk (Kd.V_below HVo.out hb10)
 replace HVl := zk (Kd.V_below HVl.out hb10)
 replace HB := zk (below_step HB.out hb10)
 clear hb10
 go_wp2_with (fail)
 refine (impl_AvoidsAll.calls n11 Ao co order Al cl lst avoids one _ (Kd.V_reads' HVo.out).2.2 (Kd.V_reads' HVo.out).2.1 (Kd.V_reads' HVl.out).2.2 (Kd.V_reads' HVl.out).2.1 H11.out).mono ?_
 rintro e_ w11 ⟨rfl, hb11⟩
 replace HVc := zk (Kd.C_below HVc.out hb11)
 replace HVp := zk (Kd.V_below HVp.out hb11)
 replace HVf1 := zk (Kd.V_below HVf1.out hb11)
 replace HVf2 := zk (Kd.V_below HVf2.out hb11)
 replace HVo := zk (Kd.V_below HVo.out hb11)
 replace HVl := zk (Kd.V_below HVl.out hb11)
 replace HB := zk (below_step HB.out hb11)
 clear hb11
 go_wp2_with (fail)
 refine (spec_AvoidsAll.calls n12 Ao co order Al cl lst avoids one _ (Kd.V_reads' HVo.out).2.2 (Kd.V_reads' HVo.out).2.1 (Kd.V_reads' HVl.out).2.2 (Kd.V_reads' HVl.out).2.1 H12.out).mono ?_
 rintro e_ w12 ⟨rfl, hb12⟩
 replace HVc := zk (Kd.C_below HVc.out hb12)
 replace HVp := zk (Kd.V_below HVp.out hb12)
 replace HVf1 := zk (Kd.V_below HVf1.out hb12)
 replace HVf2 := zk (Kd.V_below HVf2.out hb12)
 replace HVo := zk (Kd.V_below HVo.out hb12)
 replace HVl := zk (Kd.V_below HVl.out hb12)
 replace HB := zk (below_step HB.out hb12)
 clear hb12
 go_wp2_with (fail)
 refine (laws_vCut.calls A0 c0 l0 2 d2 _ HVc.out HC0.out H13.out).mono ?_
 rintro e_ w13 ⟨v0_13, rfl, hv0_13, hb13⟩
 obtain ⟨Ad2, cd2, rfl, gv0_13⟩ := led_R hv0_13
 have HVd2 := zk gv0_13
 clear gv0_13 hv0_13
 replace HVc := zk (Kd.C_below HVc.out hb13)
 replace HVp := zk (Kd.V_below HVp.out hb13)
 replace HVf1 := zk (Kd.V_below HVf1.out hb13)
 replace HVf2 := zk (Kd.V_below HVf2.out hb13)
 replace HVo := zk (Kd.V_below HVo.out hb13)
 replace HVl := zk (Kd.V_below HVl.out hb13)
 replace HB := zk (below_step HB.out hb13)
 clear hb13
 go_wp2_with (fail)
 refine (spec_DrawInsertLast.calls n14 Ad2 cd2 d2 u k_ _ (Kd.V_reads' HVd2.out).2.2 (Kd.V_reads' HVd2.out).2.1 H14.out).mono ?_
 rintro e_ w14 ⟨v0_14, rfl, hv0_14, hb14⟩
 obtain ⟨Au, cu, rfl, gv0_14⟩ := led_R hv0_14
 have HVu := zk gv0_14
 clear gv0_14 hv0_14
 replace HVc := zk (Kd.C_below HVc.out hb14)
 replace HVp := zk (Kd.V_below HVp.out hb14)
 replace HVf1 := zk (Kd.V_below HVf1.out hb14)
 replace HVf2 := zk (Kd.V_below HVf2.out hb14)
 replace HVo := zk (Kd.V_below HVo.out hb14)
 replace HVl := zk (Kd.V_below HVl.out hb14)
 replace HVd2 := zk (Kd.V_below HVd2.out hb14)
 replace HB := zk (below_step HB.out hb14)
 clear hb14
 clear HVd2
 go_wp2_with (fail)
 refine (impl_InsertLast.calls n15 Au cu u k_ made two _ (Kd.V_reads' HVu.out).2.2 (Kd.V_reads' HVu.out).2.1 H15.out).mono ?_
 rintro e_ w15 ⟨v0_15, rfl, hv0_15, hb15⟩
 obtain ⟨Am1, cm1, rfl, gv0_15⟩ := led_R hv0_15
 have HVm1 := zk gv0_15
 clear gv0_15 hv0_15
 replace HVc := zk (Kd.C_below HVc.out hb15)
 replace HVp := zk (Kd.V_below HVp.out hb15)
 replace HVf1 := zk (Kd.V_below HVf1.out hb15)
 replace HVf2 := zk (Kd.V_below HVf2.out hb15)
 replace HVo := zk (Kd.V_below HVo.out hb15)
 replace HVl := zk (Kd.V_below HVl.out hb15)
 replace HVu := zk (Kd.V_below HVu.out hb15)
 replace HB := zk (below_step HB.out hb15)
 clear hb15
 go_wp2_with (fail)
 refine (spec_InsertLast.calls n16 Au cu u k_ made two _ (Kd.V_reads' HVu.out).2.2 (Kd.V_reads' HVu.out).2.1 H16.out).mono ?_
 rintro e_ w16 ⟨v0_16, rfl, hv0_16, hb16⟩
 obtain ⟨Am2, cm2, rfl, gv0_16⟩ := led_R hv0_16
 have HVm2 := zk gv0_16
 clear gv0_16 hv0_16
 replace HVc := zk (Kd.C_below HVc.out hb16)
 replace HVp := zk (Kd.V_below HVp.out hb16)
 replace HVf1 := zk (Kd.V_below HVf1.out hb16)
 replace HVf2 := zk (Kd.V_below HVf2.out hb16)
 replace HVo := zk (Kd.V_below HVo.out hb16)
 replace HVl := zk (Kd.V_below HVl.out hb16)
 replace HVu := zk (Kd.V_below HVu.out hb16)
 replace HVm1 := zk (Kd.V_below HVm1.out hb16)
 replace HB := zk (below_step HB.out hb16)
 clear hb16
 go_wp2_with (fail)
 refine (spec_DrawMostPlaces.calls n17 A0 c0 l0 m pattern _ HVc.out HC0.out H17.out).mono ?_
 rintro e_ w17 ⟨v1_17, rfl, hv1_17, hb17⟩
 obtain ⟨Aq, cq, rfl, gv1_17⟩ := led_R hv1_17
 have HVq := zk gv1_17
 clear gv1_17 hv1_17
 replace HVc := zk (Kd.C_below HVc.out hb17)
 replace HVp := zk (Kd.V_below HVp.out hb17)
 replace HVf1 := zk (Kd.V_below HVf1.out hb17)
 replace HVf2 := zk (Kd.V_below HVf2.out hb17)
 replace HVo := zk (Kd.V_below HVo.out hb17)
 replace HVl := zk (Kd.V_below HVl.out hb17)
 replace HVu := zk (Kd.V_below HVu.out hb17)
 replace HVm1 := zk (Kd.V_below HVm1.out hb17)
 replace HVm2 := zk (Kd.V_below HVm2.out hb17)
 replace HB := zk (below_step HB.out hb17)
 clear hb17
 clear HVc
 go_wp2_with (fail)
 refine (impl_MostPlaces.calls n18 m Aq cq pattern best most three _ (Kd.V_reads' HVq.out).2.2 (Kd.V_reads' HVq.out).2.1 H18.out).mono ?_
 rintro e_ w18 ⟨v0_18, rfl, hv0_18, hb18⟩
 obtain ⟨Ab1, cb1, rfl, gv0_18⟩ := led_R hv0_18
 have HVb1 := zk gv0_18
 clear gv0_18 hv0_18
 replace HVp := zk (Kd.V_below HVp.out hb18)
 replace HVf1 := zk (Kd.V_below HVf1.out hb18)
 replace HVf2 := zk (Kd.V_below HVf2.out hb18)
 replace HVo := zk (Kd.V_below HVo.out hb18)
 replace HVl := zk (Kd.V_below HVl.out hb18)
 replace HVu := zk (Kd.V_below HVu.out hb18)
 replace HVm1 := zk (Kd.V_below HVm1.out hb18)
 replace HVm2 := zk (Kd.V_below HVm2.out hb18)
 replace HVq := zk (Kd.V_below HVq.out hb18)
 replace HB := zk (below_step HB.out hb18)
 clear hb18
 go_wp2_with (fail)
 refine (spec_MostPlaces.calls n19 m Aq cq pattern best most three _ (Kd.V_reads' HVq.out).2.2 (Kd.V_reads' HVq.out).2.1 H19.out).mono ?_
 rintro e_ w19 ⟨v0_19, rfl, hv0_19, hb19⟩
 obtain ⟨Ab2, cb2, rfl, gv0_19⟩ := led_V hv0_19
 have HVb2 := zk gv0_19
 clear gv0_19 hv0_19
 replace HVp := zk (Kd.V_below HVp.out hb19)
 replace HVf1 := zk (Kd.V_below HVf1.out hb19)
 replace HVf2 := zk (Kd.V_below HVf2.out hb19)
 replace HVo := zk (Kd.V_below HVo.out hb19)
 replace HVl := zk (Kd.V_below HVl.out hb19)
 replace HVu := zk (Kd.V_below HVu.out hb19)
 replace HVm1 := zk (Kd.V_below HVm1.out hb19)
 replace HVm2 := zk (Kd.V_below HVm2.out hb19)
 replace HVq := zk (Kd.V_below HVq.out hb19)
 replace HVb1 := zk (Kd.V_below HVb1.out hb19)
 replace HB := zk (below_step HB.out hb19)
 clear hb19
 go_upto_region 19 with (fail)
 go_cut [228] from 147 to 228 (fun s228 wx1 => s228 = .bool false ∧ Aside0 (Below w19.heap.size w19 wx1))
 case first =>
  have HX := zk (Below.refl w19.heap.size w19)
  go_wp2_with (fail)
  refine (laws_vInts.calls n20 Af1 cf1 first Af2 cf2 first true _ (Kd.V_reads' HVf1.out).2.2 (Kd.V_reads' HVf1.out).2.1 (Kd.V_reads' HVf2.out).2.2 (Kd.V_reads' HVf2.out).2.1 H20.out).mono ?_
  rintro e_ w20 ⟨rfl, hb20⟩
  replace hb20 := hb20.below
  replace HVp := zk (Kd.V_below HVp.out hb20)
  replace HVf1 := zk (Kd.V_below HVf1.out hb20)
  replace HVf2 := zk (Kd.V_below HVf2.out hb20)
  replace HVo := zk (Kd.V_below HVo.out hb20)
  replace HVl := zk (Kd.V_below HVl.out hb20)
  replace HVu := zk (Kd.V_below HVu.out hb20)
  replace HVm1 := zk (Kd.V_below HVm1.out hb20)
  replace HVm2 := zk (Kd.V_below HVm2.out hb20)
  replace HVq := zk (Kd.V_below HVq.out hb20)
  replace HVb1 := zk (Kd.V_below HVb1.out hb20)
  replace HVb2 := zk (Kd.V_below HVb2.out hb20)
  replace HB := zk (below_step HB.out hb20)
  replace HX := zk (below_step HX.out hb20)
  clear hb20
  go_wp2_with (fail)
  refine (laws_vInts.calls n21 Am1 cm1 made Am2 cm2 made true _ (Kd.V_reads' HVm1.out).2.2 (Kd.V_reads' HVm1.out).2.1 (Kd.V_reads' HVm2.out).2.2 (Kd.V_reads' HVm2.out).2.1 H21.out).mono ?_
  rintro e_ w21 ⟨rfl, hb21⟩
  replace hb21 := hb21.below
  replace HVp := zk (Kd.V_below HVp.out hb21)
  replace HVf1 := zk (Kd.V_below HVf1.out hb21)
  replace HVf2 := zk (Kd.V_below HVf2.out hb21)
  replace HVo := zk (Kd.V_below HVo.out hb21)
  replace HVl := zk (Kd.V_below HVl.out hb21)
  replace HVu := zk (Kd.V_below HVu.out hb21)
  replace HVm1 := zk (Kd.V_below HVm1.out hb21)
  replace HVm2 := zk (Kd.V_below HVm2.out hb21)
  replace HVq := zk (Kd.V_below HVq.out hb21)
  replace HVb1 := zk (Kd.V_below HVb1.out hb21)
  replace HVb2 := zk (Kd.V_below HVb2.out hb21)
  replace HB := zk (below_step HB.out hb21)
  replace HX := zk (below_step HX.out hb21)
  clear hb21
  go_wp2_with (fail)
  refine (laws_vInts.calls n22 Ab1 cb1 best Ab2 cb2 best true _ (Kd.V_reads' HVb1.out).2.2 (Kd.V_reads' HVb1.out).2.1 (Kd.V_reads' HVb2.out).2.2 (Kd.V_reads' HVb2.out).2.1 H22.out).mono ?_
  rintro e_ w22 ⟨rfl, hb22⟩
  replace hb22 := hb22.below
  replace HVp := zk (Kd.V_below HVp.out hb22)
  replace HVf1 := zk (Kd.V_below HVf1.out hb22)
  replace HVf2 := zk (Kd.V_below HVf2.out hb22)
  replace HVo := zk (Kd.V_below HVo.out hb22)
  replace HVl := zk (Kd.V_below HVl.out hb22)
  replace HVu := zk (Kd.V_below HVu.out hb22)
  replace HVm1 := zk (Kd.V_below HVm1.out hb22)
  replace HVm2 := zk (Kd.V_below HVm2.out hb22)
  replace HVq := zk (Kd.V_below HVq.out hb22)
  replace HVb1 := zk (Kd.V_below HVb1.out hb22)
  replace HVb2 := zk (Kd.V_below HVb2.out hb22)
  replace HB := zk (below_step HB.out hb22)
  replace HX := zk (below_step HX.out hb22)
  clear hb22
  cases ok with
  | false =>
   obtain rfl : fine = false := hfe.out
   cases there with
   | false =>
    go_wp2_with (fail)
    go_meet
    exact ⟨rfl, HX⟩
   | true =>
    obtain rfl : one = true := hto.out rfl
    go_wp2_with (fail)
    go_meet
    exact ⟨rfl, HX⟩
  | true =>
   obtain rfl : fine = decide (many > 0) := by have := hfe.out; simpa using this
   cases there with
   | false =>
    go_wp2_with (fail)
    go_meet
    exact ⟨rfl, HX⟩
   | true =>
    obtain rfl : one = true := hto.out rfl
    go_wp2_with (fail)
    go_meet
    exact ⟨rfl, HX⟩
 case rest =>
  obtain ⟨rfl, HX1⟩ := hcut
  clear hfe hto
  replace HVp := zk (Kd.V_below HVp.out HX1.out)
  replace HVf1 := zk (Kd.V_below HVf1.out HX1.out)
  replace HVf2 := zk (Kd.V_below HVf2.out HX1.out)
  replace HVo := zk (Kd.V_below HVo.out HX1.out)
  replace HVl := zk (Kd.V_below HVl.out HX1.out)
  replace HVu := zk (Kd.V_below HVu.out HX1.out)
  replace HVm1 := zk (Kd.V_below HVm1.out HX1.out)
  replace HVm2 := zk (Kd.V_below HVm2.out HX1.out)
  replace HVq := zk (Kd.V_below HVq.out HX1.out)
  replace HVb1 := zk (Kd.V_below HVb1.out HX1.out)
  replace HVb2 := zk (Kd.V_below HVb2.out HX1.out)
  replace HB := zk (below_step HB.out HX1.out)
  clear HX1
  clear HVf2
  clear HVm2
  clear HVb2
  go_upto_if 229 with (fail)
  go_cut [37, 38] from 230 to 247 (fun s37 s38 wx2 => Aside0 (Below wc.heap.size wc wx2))
  case first =>
   have HX := zk (Below.refl wc.heap.size wc)
   cases fine with
   | false =>
    go_wp2_with (fail)
    go_meet
    exact HX
   | true =>
    obtain ⟨h1, h2⟩ := hfine.out rfl
    obtain ⟨ka, fka⟩ := h1
    have XA := zk (fka ka (Nat.le_refl _))
    clear fka
    have hb : ((first.length : Int) != n) = false := by rw [h2]; simp
    clear h2
    go_wp2_with (fail)
    refine (impl_AvoidsAll.calls ka Af1 cf1 first Ap cp pats true true _ (Kd.V_reads' HVf1.out).2.2 (Kd.V_reads' HVf1.out).2.1 (Kd.V_reads' HVp.out).2.2 (Kd.V_reads' HVp.out).2.1 XA.out).mono ?_
    rintro e_ w20 ⟨rfl, hb20⟩
    replace HVp := zk (Kd.V_below HVp.out hb20)
    replace HVf1 := zk (Kd.V_below HVf1.out hb20)
    replace HVo := zk (Kd.V_below HVo.out hb20)
    replace HVl := zk (Kd.V_below HVl.out hb20)
    replace HVu := zk (Kd.V_below HVu.out hb20)
    replace HVm1 := zk (Kd.V_below HVm1.out hb20)
    replace HVq := zk (Kd.V_below HVq.out hb20)
    replace HVb1 := zk (Kd.V_below HVb1.out hb20)
    replace HB := zk (below_step HB.out hb20)
    replace HX := zk (below_step HX.out hb20)
    clear hb20
    go_wp2_with (fail)
    go_meet
    exact HX
  case rest =>
   have HX2 := hcut
   clear hcut hfine
   replace HVp := zk (Kd.V_below HVp.out HX2.out)
   replace HVf1 := zk (Kd.V_below HVf1.out HX2.out)
   replace HVo := zk (Kd.V_below HVo.out HX2.out)
   replace HVl := zk (Kd.V_below HVl.out HX2.out)
   replace HVu := zk (Kd.V_below HVu.out HX2.out)
   replace HVm1 := zk (Kd.V_below HVm1.out HX2.out)
   replace HVq := zk (Kd.V_below HVq.out HX2.out)
   replace HVb1 := zk (Kd.V_below HVb1.out HX2.out)
   replace HB := zk (below_step HB.out HX2.out)
   clear HX2
   clear HVp
   clear HVf1
   go_upto_if 248 with (fail)
   go_cut [39, 40] from 249 to 280 (fun s39 s40 wx3 => Aside0 (Below wc.heap.size wc wx3))
   case first =>
    have HX := zk (Below.refl wc.heap.size wc)
    cases two with
    | false =>
     go_wp2_with (fail)
     go_meet
     exact HX
    | true =>
     obtain ⟨h1, h2, h3, h4, h5, h6⟩ := htwo.out rfl
     obtain ⟨ka, fka⟩ := h1
     have XA := zk (fka ka (Nat.le_refl _))
     clear fka
     obtain ⟨kb, fkb⟩ := h2
     have XB := zk (fkb kb (Nat.le_refl _))
     clear fkb
     obtain ⟨kc, fkc⟩ := h6
     have XC := zk (fkc kc (Nat.le_refl _))
     clear fkc
     clear htwo
     obtain ⟨T, hT, hTl⟩ : ∃ T : List Int, made.take (made.length - 1) = T ∧ made.length = T.length + 1 := ⟨_, rfl, by rw [List.length_take]; omega⟩
     rw [hT] at XA
     have hm1 : made.length - 1 = T.length := by omega
     have hw1 : wrap64 ((made.length : Int) - 1) = (T.length : Int) := by rw [wrap_of (by omega) (by omega)]; omega
     rw [hm1] at h5 hT
     obtain ⟨ad, e1, hx⟩ := led_int HVm1.out T.length (by omega)
     cases e1
     rw [h5] at hx
     have hjl : (T.length : Int) < (made.length : Int) := by omega
     have hj0 : (0 : Int) ≤ (T.length : Int) := by omega
     have hj1 : (T.length : Int) ≤ (made.length : Int) := by omega
     obtain ⟨i0_, hi0_, _, _, _⟩ := info_parts info3
     have hcut_ := cut_to (P := Try.prog) 22 3 .i64 Try.underlying22 hi0_ (some ad) made.length cm1 (T.length : Int) hj0 hj1 (Kd.V_reads' HVm1.out).2.1
     have hrw := Kd.C_take (m := T.length) (Kd.V_reads' HVm1.out).2.2 (by omega)
     rw [Int.toNat_natCast] at hcut_
     rw [hT] at hrw
     have HWC := zk hrw
     have hjc : T.length ≤ cm1 := by have := (Kd.V_reads' HVm1.out).2.1; omega
     have HLC := zk hjc
     clear hrw hi0_ hm1 hT hTl h5 h3 h4
     have HX7 := zk hx
     clear hx
     have HQ := zk (Below.refl wc.heap.size wc)
     have HVwc := HWC
     go_wp2_with (fail)
     refine (impl_ShapeOf.calls ka (some ad) cm1 T u true _ HVwc.out HLC.out XA.out).mono ?_
     rintro e_ w20 ⟨v0_20, rfl, hv0_20, hb20⟩
     obtain ⟨Awh, cwh, rfl, gv0_20⟩ := led_R hv0_20
     have HVwh := zk gv0_20
     clear gv0_20 hv0_20
     replace HVo := zk (Kd.V_below HVo.out hb20)
     replace HVl := zk (Kd.V_below HVl.out hb20)
     replace HVu := zk (Kd.V_below HVu.out hb20)
     replace HVm1 := zk (Kd.V_below HVm1.out hb20)
     replace HVq := zk (Kd.V_below HVq.out hb20)
     replace HVb1 := zk (Kd.V_below HVb1.out hb20)
     replace HVwc := zk (Kd.C_below HVwc.out hb20)
     replace HB := zk (below_step HB.out hb20)
     replace HX := zk (below_step HX.out hb20)
     replace HQ := zk (below_step HQ.out hb20)
     clear hb20
     go_wp2_with (fail)
     refine (laws_vInts.calls kb Awh cwh u Au cu u true _ (Kd.V_reads' HVwh.out).2.2 (Kd.V_reads' HVwh.out).2.1 (Kd.V_reads' HVu.out).2.2 (Kd.V_reads' HVu.out).2.1 XB.out).mono ?_
     rintro e_ w21 ⟨rfl, hb21⟩
     replace hb21 := hb21.below
     replace HVo := zk (Kd.V_below HVo.out hb21)
     replace HVl := zk (Kd.V_below HVl.out hb21)
     replace HVu := zk (Kd.V_below HVu.out hb21)
     replace HVm1 := zk (Kd.V_below HVm1.out hb21)
     replace HVq := zk (Kd.V_below HVq.out hb21)
     replace HVb1 := zk (Kd.V_below HVb1.out hb21)
     replace HVwc := zk (Kd.C_below HVwc.out hb21)
     replace HVwh := zk (Kd.V_below HVwh.out hb21)
     replace HB := zk (below_step HB.out hb21)
     replace HX := zk (below_step HX.out hb21)
     replace HQ := zk (below_step HQ.out hb21)
     clear hb21
     have hx := (HQ.out.cell (World.block_lt_of_cell? _ _ HX7.out)).trans HX7.out
     go_wp2_with (fail)
     refine (impl_IsOrder.calls kc (some ad) cm1 made true _ (Kd.V_reads' HVm1.out).2.2 (Kd.V_reads' HVm1.out).2.1 XC.out).mono ?_
     rintro e_ w22 ⟨rfl, hb22⟩
     replace hb22 := hb22.below
     replace HVo := zk (Kd.V_below HVo.out hb22)
     replace HVl := zk (Kd.V_below HVl.out hb22)
     replace HVu := zk (Kd.V_below HVu.out hb22)
     replace HVm1 := zk (Kd.V_below HVm1.out hb22)
     replace HVq := zk (Kd.V_below HVq.out hb22)
     replace HVb1 := zk (Kd.V_below HVb1.out hb22)
     replace HVwc := zk (Kd.C_below HVwc.out hb22)
     replace HVwh := zk (Kd.V_below HVwh.out hb22)
     replace HB := zk (below_step HB.out hb22)
     replace HX := zk (below_step HX.out hb22)
     replace HQ := zk (below_step HQ.out hb22)
     clear hb22
     go_wp2_with (fail)
     go_meet
     exact HX
   case rest =>
    have HX3 := hcut
    clear hcut htwo
    replace HVo := zk (Kd.V_below HVo.out HX3.out)
    replace HVl := zk (Kd.V_below HVl.out HX3.out)
    replace HVu := zk (Kd.V_below HVu.out HX3.out)
    replace HVm1 := zk (Kd.V_below HVm1.out HX3.out)
    replace HVq := zk (Kd.V_below HVq.out HX3.out)
    replace HVb1 := zk (Kd.V_below HVb1.out HX3.out)
    replace HB := zk (below_step HB.out HX3.out)
    clear HX3
    clear HVm1
    clear HVu
    go_upto_if 281 with (fail)
    go_cut [41, 42, 43, 44, 45, 46] from 282 to 319 (fun s41 s42 s43 s44 s45 s46 wx4 => Aside0 (Below wc.heap.size wc wx4))
    case first =>
     have HX := zk (Below.refl wc.heap.size wc)
     cases there with
     | false =>
      go_wp2_with (fail)
      go_meet
      exact HX
     | true =>
      obtain ⟨h1, h2, h3, h4⟩ := hthere.out rfl
      have HT := zk h1
      have GH2 := zk h2
      have GH3 := zk h3
      have hwl : wrap64 ((order.length : Int) + 1) = (order.length : Int) + 1 := wrap_of (by omega) (by omega)
      have GH4 := zk h4
      clear h1 h2 h3 h4
      go_wp2_with (fail)
      go_loopg [41, 42] (order.length + 1) (fun kq v41 v42 wr => ∃ (i : Nat), v41 = .int .i64 (sm i) ∧ v42 = .int .i64 ((i : Int) + 1) ∧ kq + i = order.length + 1 ∧ Aside0 (Below wc.heap.size wc wr))
      case atStart => exact ⟨0, by rw [GH2.out], rfl, rfl, HX⟩
      case round =>
       obtain ⟨i, rfl, rfl, hk, HW⟩ := hrel
       have HK := zk hk
       clear hk HX
       replace HVo := zk (Kd.V_below HVo.out HW.out)
       replace HVl := zk (Kd.V_below HVl.out HW.out)
       replace HVq := zk (Kd.V_below HVq.out HW.out)
       replace HVb1 := zk (Kd.V_below HVb1.out HW.out)
       replace HB := zk (below_step HB.out HW.out)
       cases gk with
       | zero =>
        have hle : ¬ ((i : Int) + 1 ≤ (order.length : Int) + 1) := by have := HK.out; omega
        have hle1 : decide ((i : Int) + 1 ≤ (order.length : Int) + 1) = false := decide_eq_false hle
        have hle2 : decide (i ≤ order.length) = false := decide_eq_false (by omega)
        have hle3 : decide ((i : Int) ≤ (order.length : Int)) = false := decide_eq_false (by omega)
        obtain rfl : i = order.length + 1 := by have := HK.out; omega
        have hsk : (sm (order.length + 1) != kids) = false := by rw [GH3.out]; simp
        clear hle
        go_wp2_with (fail)
        go_meet
        exact HW
       | succ n_ =>
        have hil : i ≤ order.length := by have := HK.out; omega
        have hle : (i : Int) + 1 ≤ (order.length : Int) + 1 := by omega
        have hle1 : decide ((i : Int) + 1 ≤ (order.length : Int) + 1) = true := decide_eq_true hle
        have hle2 : decide (i ≤ order.length) = true := decide_eq_true hil
        have hle3 : decide ((i : Int) ≤ (order.length : Int)) = true := decide_eq_true (by omega)
        obtain ⟨e1, e2, e3, e4, e5, e6⟩ := HT.out i hil
        obtain ⟨ka, fka⟩ := e1
        have XA := zk (fka ka (Nat.le_refl _))
        clear fka
        obtain ⟨kb, fkb⟩ := e2
        have XB := zk (fkb kb (Nat.le_refl _))
        clear fkb
        have hwi : wrap64 ((i : Int) + 1 + 1) = ((i + 1 : Nat) : Int) + 1 := by rw [wrap_of (by have := GH4.out; omega) (by have := GH4.out; omega)]; omega
        have HM := zk e4
        have HA := zk e3
        clear e3 e4 hle hil
        have HM5 := zk e5
        have HM6 := zk e6
        clear e5 e6
        go_wp2_with (fail)
        refine (impl_InsertLast.calls ka Ao co order (((i : Int) + 1)) ((nx i)) true _ (Kd.V_reads' HVo.out).2.2 (Kd.V_reads' HVo.out).2.1 XA.out).mono ?_
        rintro e_ w20 ⟨v0_20, rfl, hv0_20, hb20⟩
        obtain ⟨Ax, cx, rfl, gv0_20⟩ := led_R hv0_20
        have HVx := zk gv0_20
        clear gv0_20 hv0_20
        replace HVo := zk (Kd.V_below HVo.out hb20)
        replace HVl := zk (Kd.V_below HVl.out hb20)
        replace HVq := zk (Kd.V_below HVq.out hb20)
        replace HVb1 := zk (Kd.V_below HVb1.out hb20)
        replace HB := zk (below_step HB.out hb20)
        replace HW := zk (below_step HW.out hb20)
        clear hb20
        go_wp2_with (fail)
        refine (impl_AvoidsAll.calls kb Ax cx ((nx i)) Al cl lst ((av i)) true _ (Kd.V_reads' HVx.out).2.2 (Kd.V_reads' HVx.out).2.1 (Kd.V_reads' HVl.out).2.2 (Kd.V_reads' HVl.out).2.1 XB.out).mono ?_
        rintro e_ w21 ⟨rfl, hb21⟩
        replace HVo := zk (Kd.V_below HVo.out hb21)
        replace HVl := zk (Kd.V_below HVl.out hb21)
        replace HVq := zk (Kd.V_below HVq.out hb21)
        replace HVb1 := zk (Kd.V_below HVb1.out hb21)
        replace HVx := zk (Kd.V_below HVx.out hb21)
        replace HB := zk (below_step HB.out hb21)
        replace HW := zk (below_step HW.out hb21)
        clear hb21
        clear HVx
        obtain ⟨b, hb⟩ : ∃ b, av i = b := ⟨_, rfl⟩
        rw [hb]
        have HM1 := HM.out
        have HA1 := HA.out
        rw [hb] at HM1 HA1
        clear hb HM HA
        cases b with
        | false =>
         have hs0 : sm (i + 1) = sm i := by simpa using HM1
         clear HM1 HA1
         have HS0 := zk hs0
         clear hs0
         go_wp2_with (fail)
         go_roundg n_
         case measure => simp
         case rel => exact ⟨i + 1, by rw [HS0.out], by first | rfl | exact congrArg _ hwi | simp [hwi], by have := HK.out; omega, HW⟩
        | true =>
         obtain rfl : avoids = true := HA1 rfl
         have hws : wrap64 (sm i + 1) = sm (i + 1) := by rw [HM1, wrap_of (by have := HM5.out; omega) (by have := HM6.out; omega)]; rfl
         clear HM1 HA1
         go_wp2_with (fail)
         go_roundg n_
         case measure => simp
         case rel => exact ⟨i + 1, congrArg _ hws, by first | rfl | exact congrArg _ hwi | simp [hwi], by have := HK.out; omega, HW⟩
    case rest =>
     have HX4 := hcut
     clear hcut hthere
     replace HVo := zk (Kd.V_below HVo.out HX4.out)
     replace HVl := zk (Kd.V_below HVl.out HX4.out)
     replace HVq := zk (Kd.V_below HVq.out HX4.out)
     replace HVb1 := zk (Kd.V_below HVb1.out HX4.out)
     replace HB := zk (below_step HB.out HX4.out)
     clear HX4
     clear HVo
     clear HVl
     cases three with
     | false =>
      go_wp2_with (fail)
      go_ret
      exact ⟨rfl, HB.out⟩
     | true =>
      obtain ⟨h1, h2⟩ := hthree.out rfl
      obtain ⟨ka, fka⟩ := h1
      have XA := zk (fka ka (Nat.le_refl _))
      clear fka
      have hb : ((best.length : Int) == m) = true := by rw [h2]; simp
      clear h2
      go_wp2_with (fail)
      refine (impl_CountPlaces.calls ka Ab1 cb1 best Aq cq pattern most true _ (Kd.V_reads' HVb1.out).2.2 (Kd.V_reads' HVb1.out).2.1 (Kd.V_reads' HVq.out).2.2 (Kd.V_reads' HVq.out).2.1 XA.out).mono ?_
      rintro e_ w20 ⟨rfl, hb20⟩
      replace HVq := zk (Kd.V_below HVq.out hb20)
      replace HVb1 := zk (Kd.V_below HVb1.out hb20)
      replace HB := zk (below_step HB.out hb20)
      clear hb20
      go_wp2_with (fail)
      go_ret
      exact ⟨rfl, HB.out⟩
/-- THE ONE PURE STATEMENT of laws_FnAvoiding. -/
def laws_FnAvoiding.Pure : Prop := ∀ (l0 : List Int), l0.length ≤ maxLen → l0.length * 1 ≤ 140737488351232 → (∀ x ∈ l0, (Lit.int .u8 x).wf = true) → laws_vBig.f l0 = some true ∨ laws_vBig.f l0 = some false ∧ ∃ (first d1 order d2 u made pattern best : List Int) (pats lst : List (List Int)) (nx : Nat → List Int) (av : Nat → Bool) (sm : Nat → Int) (n many kids k_ m most : Int) (ok fine there avoids one two three : Bool), laws_FnAvoiding.Facts l0 first d1 order d2 u made pattern best pats lst nx av sm n many kids k_ m most ok fine there avoids one two three
set_option maxHeartbeats 8000000 in
set_option maxRecDepth 100000 in
theorem laws_FnAvoiding.big (A0 : Option Addr) (c0 : Nat) (l0 : List Int) (w : World) (hr0 : Kd.C (Kd.int .u8) w A0 l0.length l0) (hc0 : l0.length ≤ c0) (HBG : laws_vBig.f l0 = some true) :
 Calls Try.prog 12 #[.slice A0 l0.length c0] w fun e w' => e = .returned (.bool true) ∧ Below w.heap.size w w' := by
 have HG := zk HBG
 clear HBG
 go_enter Try.func12, Try.ntmps12
 go_wp2_with (fail)
 refine (laws_vBig.calls A0 c0 l0 true _ hr0 hc0 HG.out).mono ?_
 rintro e_ w1 ⟨rfl, hb1⟩
 replace hb1 := hb1.below
 go_wp2_with (fail)
 go_ret
 exact ⟨rfl, hb1⟩
theorem laws_FnAvoiding.walk (P : laws_FnAvoiding.Pure) (a0 : Option Addr) (len0 cap0 : Nat) (z0 : List Int) (w : World) (w0 : (a0 = none ∧ len0 = 0 ∧ cap0 = 0 ∧ z0 = []) ∨ ∃ x, a0 = some x ∧ len0 ≤ cap0 ∧ cap0 ≤ maxLen ∧ z0.length = cap0 ∧ (∀ i, i < z0.length → w.cell? (x.add i) = some (.int .u8 (z0.getD i 0))) ∧ ∀ n ∈ z0, (Lit.int .u8 n).wf = true) (y0 : len0 * 1 ≤ 140737488351232) :
 Calls Try.prog 12 #[.slice a0 len0 cap0] w fun e w' => e = .returned (.bool true) ∧ Below w.heap.size w w' := by
 obtain ⟨l0, rfl, hr0, hm0, hw0, hc0⟩ := ReadsInt.ofRowC w0
 rcases P l0 hm0 y0 hw0 with h | ⟨h, first, d1, order, d2, u, made, pattern, best, pats, lst, nx, av, sm, n, many, kids, k_, m, most, ok, fine, there, avoids, one, two, three, F⟩
 · exact laws_FnAvoiding.big _ _ l0 w (Kd.C_of_reads (d := (0 : Int)) (h1 := fun _ => rfl) hr0) hc0 h
 · exact laws_FnAvoiding.own first d1 order d2 u made pattern best pats lst nx av sm n many kids k_ m most ok fine there avoids one two three _ _ l0 w (Kd.C_of_reads (d := (0 : Int)) (h1 := fun _ => rfl) hr0) hc0 h F
end

end Go.Proofs.Ytlkddcabjcejdaa.MFnAvoiding
