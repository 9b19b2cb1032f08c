/- The functions that FnStackWords comes to, with a walk for each. Made by this session's own program (wip/tools/mk.py), in the form of the kit's print; walks named in NOTES.md were written by hand. -/
import Derived.Test.YtlkddcabjcejdaaMFnStackWordsx0
import Derived.Test.YtlkddcabjcejdaaMFnStackWordsx3
import Derived.Test.YtlkddcabjcejdaaMFnStackWordsx7
import Derived.Test.YtlkddcabjcejdaaMFnStackWordsx10
import Derived.Test.YtlkddcabjcejdaaMFnStackWordsx12
import Derived.Test.YtlkddcabjcejdaaMFnStackWordsx13
namespace Go.Proofs.Ytlkddcabjcejdaa.MFnStackWords
open Go.RowKit Go.Proofs.YtlkddcabjcejdaaW.PrintWords Go.Proofs.YtlkddcabjcejdaaW.PrintLast Go.Proofs.YtlkddcabjcejdaaW.PrintMore
attribute [local go_sem] max2_int min2_int max_two min_two max_three min_three max_four min_four   -- for this text's walks alone
set_option linter.unusedVariables false
set_option linter.unusedSimpArgs false

/-! ### laws_FnStackWords: function 11 -/
section
open Go.Proofs.Ytlkddcabjcejdaa.Base
theorem led_V {α : Type} {d : Kd α} {e b : Nat} {W : World} {ok : Nat → Prop} {v : Value} {xs : List α} (h : Kd.V d e W b ok v xs) : ∃ A c, v = .slice A xs.length c ∧ Kd.V d e W 0 (fun _ => True) (.slice A xs.length c) xs := by
 obtain ⟨A, c, rfl⟩ := Kd.V_slice h
 exact ⟨A, c, rfl, Kd.V_mono h (fun _ _ => trivial)⟩
theorem led_R {α : Type} {d : Kd α} {e b : Nat} {W : World} {ok : Nat → Prop} {v : Value} {xs : List α} (h : Kd.R d e W b ok v xs) : ∃ A c, v = .slice A xs.length c ∧ Kd.V d e W 0 (fun _ => True) (.slice A xs.length c) xs := led_V (Kd.R_V (base' := 0) h)
theorem led_S {α : Type} {d : Kd α} {e b : Nat} {W : World} {ok : Nat → Prop} {v : Value} {xs : List α} (h : Kd.S d e W b ok v xs) : ∃ A c, v = .slice A xs.length c ∧ Kd.V d e W 0 (fun _ => True) (.slice A xs.length c) xs := led_V (Kd.S_V (base' := 0) h)
theorem led_N {α : Type} {d : Kd α} {e b : Nat} {W : World} {ok : Nat → Prop} {v : Value} {xs : List α} (h : Kd.N d e W b ok v xs) : ∃ A c, v = .slice A xs.length c ∧ Kd.V d e W 0 (fun _ => True) (.slice A xs.length c) xs := led_V (Kd.N_V (base' := 0) h)
theorem led_row {W : World} {A : Option Addr} {c : Nat} {e : TypeId} {rows : List (List Int)} (h : Kd.V (Kd.slice 3 (Kd.int .i64)) e W 0 (fun _ => True) (.slice A rows.length c) rows) (i : Nat) (hi : i < rows.length) : ∃ ad A' c', A = some ad ∧ W.cell? (ad.add i) = some (.slice A' (rows.getD i []).length c') ∧ Kd.V (Kd.int .i64) 3 W 0 (fun _ => True) (.slice A' (rows.getD i []).length c') (rows.getD i []) := by
 obtain ⟨ad, cs, e1, _, hK, hc, _⟩ := Kd.F_get (Kd.V_F h) ([] : List Int) (i : Int) (by omega) (by omega)
 obtain ⟨A', c', rfl, hl, hf⟩ := Kd.FK_slice_open hK
 have h0 := hc 0 _ rfl
 simp only [Int.toNat_natCast] at h0 hl hf
 rw [show (Kd.slice 3 (Kd.int .i64)).sz = 1 from rfl, Nat.mul_one, Nat.add_zero] at h0
 exact ⟨ad, A', c', e1, h0, Kd.V_mk hl hf⟩
theorem led_int {W : World} {A : Option Addr} {c : Nat} {e : TypeId} {xs : List Int} (h : Kd.V (Kd.int .i64) e W 0 (fun _ => True) (.slice A xs.length c) xs) (i : Nat) (hi : i < xs.length) : ∃ ad, A = some ad ∧ W.cell? (ad.add i) = some (.int .i64 (xs.getD i 0)) := by
 obtain ⟨ad, e1, hc⟩ := Kd.at_int (Kd.V_reads' h).2.2 (i : Int) (by omega) (by omega)
 rw [Int.toNat_natCast, show rd xs (i : Int) = xs.getD i 0 from rfl] at hc
 exact ⟨ad, e1, hc⟩
/-- What the calls of the law answer, and what the law asks of it. -/
structure laws_FnStackWords.Facts (l0 : List Int) (o out a b y : List Int) (w_ tw x mir : ByteArray) (words : List ByteArray) (outs : List (List Int)) (n deep : Int) (ok one two four five : Bool) : Prop where
 e1 : laws_rBig.f l0 = some false
 e2 : Ev (fun k => spec_DrawRunWord.f k l0) ((o, w_))
 e3 : Ev (fun k => impl_RunWord.f k o w_) ((out, ok))
 e4 : Ev (fun k => spec_RunWord.f k o w_) ((out, ok))
 e5 : Ev (fun k => laws_rInts.f k out out) true
 e6 : Ev (fun k => spec_DrawWordTo.f k l0) ((a, b))
 e7 : Ev (fun k => impl_WordTo.f k a b) ((tw, one))
 e8 : Ev (fun k => spec_WordTo.f k a b) ((tw, one))
 e9 : Ev (fun k => spec_DrawMirrorWord.f k l0) x
 e10 : Ev (fun k => impl_MirrorWord.f k x) ((mir, two))
 e11 : Ev (fun k => spec_MirrorWord.f k x) ((mir, two))
 e12 : Ev (fun k => impl_IsWord.f k x) two
 e13 : Ev (fun k => impl_DepthOf.f k x) ((deep, two))
 e14 : Ev (fun k => spec_DepthOf.f k x) ((deep, two))
 e15 : spec_DrawWordsOf.f l0 = some n
 e16 : Ev (fun k => impl_WordsOf.f k n) ((words, four))
 e17 : Ev (fun k => spec_WordsOf.f k n) ((words, four))
 e18 : Ev (fun k => laws_rTexts.f k words words) true
 e19 : Ev (fun k => spec_DrawOutputsOf.f k l0) y
 e20 : Ev (fun k => impl_OutputsOf.f k y) ((outs, five))
 e21 : Ev (fun k => spec_OutputsOf.f k y) ((outs, five))
 e22 : Ev (fun k => laws_rLists.f k outs outs) true
 hone : one = true → Ev (fun k => impl_RunWord.f k a tw) (b, true) ∧ Ev (fun k => laws_rInts.f k b b) true
 htwo : two = true → Ev (fun k => impl_MirrorWord.f k mir) (x, true) ∧ Ev (fun k => impl_DepthOf.f k mir) (deep, true)
 hfive : five = true → ∃ own : List ByteArray, Ev (fun k => impl_WordsOf.f k (y.length : Int)) (own, true) ∧ own.length = outs.length
 hok : ok = true → Ev (fun k => impl_WordTo.f k o out) (w_, true)
set_option maxHeartbeats 16000000 in
set_option maxRecDepth 100000 in
theorem laws_FnStackWords.own (o out a b y : List Int) (w_ tw x mir : ByteArray) (words : List ByteArray) (outs : List (List Int)) (n deep : Int) (ok one two four five : Bool) (A0 : Option Addr) (c0 : Nat) (l0 : List Int) (w : World) (hr0 : Kd.C (Kd.int .u8) w A0 l0.length l0) (hc0 : l0.length ≤ c0) (HBG : laws_rBig.f l0 = some false) (F : laws_FnStackWords.Facts l0 o out a b y w_ tw x mir words outs n deep ok one two four five) :
 Calls Try.prog 11 #[.slice A0 l0.length c0] w fun e w' => e = .returned (.bool true) ∧ Below w.heap.size w w' := by
 have HVc := zk hr0
 have HC0 := zk hc0
 have H0 := zk HBG
 have HB := zk (Below.refl w.heap.size w)
 have H1 := zk F.e1
 obtain ⟨n2, f2⟩ := F.e2
 have H2 := zk (f2 n2 (Nat.le_refl _))
 clear f2
 obtain ⟨n3, f3⟩ := F.e3
 have H3 := zk (f3 n3 (Nat.le_refl _))
 clear f3
 obtain ⟨n4, f4⟩ := F.e4
 have H4 := zk (f4 n4 (Nat.le_refl _))
 clear f4
 obtain ⟨n5, f5⟩ := F.e5
 have H5 := zk (f5 n5 (Nat.le_refl _))
 clear f5
 obtain ⟨n6, f6⟩ := F.e6
 have H6 := zk (f6 n6 (Nat.le_refl _))
 clear f6
 obtain ⟨n7, f7⟩ := F.e7
 have H7 := zk (f7 n7 (Nat.le_refl _))
 clear f7
 obtain ⟨n8, f8⟩ := F.e8
 have H8 := zk (f8 n8 (Nat.le_refl _))
 clear f8
 obtain ⟨n9, f9⟩ := F.e9
 have H9 := zk (f9 n9 (Nat.le_refl _))
 clear f9
 obtain ⟨n10, f10⟩ := F.e10
 have H10 := zk (f10 n10 (Nat.le_refl _))
 clear f10
 obtain ⟨n11, f11⟩ := F.e11
 have H11 := zk (f11 n11 (Nat.le_refl _))
 clear f11
 obtain ⟨n12, f12⟩ := F.e12
 have H12 := zk (f12 n12 (Nat.le_refl _))
 clear f12
 obtain ⟨n13, f13⟩ := F.e13
 have H13 := zk (f13 n13 (Nat.le_refl _))
 clear f13
 obtain ⟨n14, f14⟩ := F.e14
 have H14 := zk (f14 n14 (Nat.le_refl _))
 clear f14
 have H15 := zk F.e15
 obtain ⟨n16, f16⟩ := F.e16
 have H16 := zk (f16 n16 (Nat.le_refl _))
 clear f16
 obtain ⟨n17, f17⟩ := F.e17
 have H17 := zk (f17 n17 (Nat.le_refl _))
 clear f17
 obtain ⟨n18, f18⟩ := F.e18
 have H18 := zk (f18 n18 (Nat.le_refl _))
 clear f18
 obtain ⟨n19, f19⟩ := F.e19
 have H19 := zk (f19 n19 (Nat.le_refl _))
 clear f19
 obtain ⟨n20, f20⟩ := F.e20
 have H20 := zk (f20 n20 (Nat.le_refl _))
 clear f20
 obtain ⟨n21, f21⟩ := F.e21
 have H21 := zk (f21 n21 (Nat.le_refl _))
 clear f21
 obtain ⟨n22, f22⟩ := F.e22
 have H22 := zk (f22 n22 (Nat.le_refl _))
 clear f22
 have hone := zk F.hone
 have htwo := zk F.htwo
 have hfive := zk F.hfive
 have hok := zk F.hok
 clear hr0 hc0 HBG F
 go_enter Try.func11, Try.ntmps11
 go_wp2_with (fail)
 refine (laws_rBig.calls A0 c0 l0 false _ HVc.out HC0.out H1.out).mono ?_
 rintro e_ w1 ⟨rfl, hb1⟩
 replace hb1 := hb1.below
 replace HVc := zk (Kd.C_below HVc.out hb1)
 replace HB := zk (below_step HB.out hb1)
 clear hb1
 go_wp2_with (fail)
 refine (spec_DrawRunWord.calls n2 A0 c0 l0 o w_ _ HVc.out HC0.out H2.out).mono ?_
 rintro e_ w2 ⟨v0_2, rfl, hv0_2, hb2⟩
 obtain ⟨Ao, co, rfl, gv0_2⟩ := led_R hv0_2
 have HVo := zk gv0_2
 clear gv0_2 hv0_2
 replace HVc := zk (Kd.C_below HVc.out hb2)
 replace HB := zk (below_step HB.out hb2)
 clear hb2
 go_wp2_with (fail)
 refine (impl_RunWord.calls n3 Ao co o w_ out ok _ (Kd.V_reads' HVo.out).2.2 (Kd.V_reads' HVo.out).2.1 H3.out).mono ?_
 rintro e_ w3 ⟨v0_3, rfl, hv0_3, hb3⟩
 obtain ⟨Au1, cu1, rfl, gv0_3⟩ := led_R hv0_3
 have HVu1 := zk gv0_3
 clear gv0_3 hv0_3
 replace HVc := zk (Kd.C_below HVc.out hb3)
 replace HVo := zk (Kd.V_below HVo.out hb3)
 replace HB := zk (below_step HB.out hb3)
 clear hb3
 go_wp2_with (fail)
 refine (spec_RunWord.calls n4 Ao co o w_ out ok _ (Kd.V_reads' HVo.out).2.2 (Kd.V_reads' HVo.out).2.1 H4.out).mono ?_
 rintro e_ w4 ⟨v0_4, rfl, hv0_4, hb4⟩
 obtain ⟨Au2, cu2, rfl, gv0_4⟩ := led_R hv0_4
 have HVu2 := zk gv0_4
 clear gv0_4 hv0_4
 replace HVc := zk (Kd.C_below HVc.out hb4)
 replace HVo := zk (Kd.V_below HVo.out hb4)
 replace HVu1 := zk (Kd.V_below HVu1.out hb4)
 replace HB := zk (below_step HB.out hb4)
 clear hb4
 go_wp2_with (fail)
 refine (laws_rInts.calls n5 Au1 cu1 out Au2 cu2 out true _ (Kd.V_reads' HVu1.out).2.2 (Kd.V_reads' HVu1.out).2.1 (Kd.V_reads' HVu2.out).2.2 (Kd.V_reads' HVu2.out).2.1 H5.out).mono ?_
 rintro e_ w5 ⟨rfl, hb5⟩
 replace hb5 := hb5.below
 replace HVc := zk (Kd.C_below HVc.out hb5)
 replace HVo := zk (Kd.V_below HVo.out hb5)
 replace HVu1 := zk (Kd.V_below HVu1.out hb5)
 replace HVu2 := zk (Kd.V_below HVu2.out hb5)
 replace HB := zk (below_step HB.out hb5)
 clear hb5
 clear HVu2
 go_wp2_with (fail)
 refine (spec_DrawWordTo.calls n6 A0 c0 l0 a b _ HVc.out HC0.out H6.out).mono ?_
 rintro e_ w6 ⟨v0_6, v1_6, rfl, hv0_6, hv1_6, hb6⟩
 obtain ⟨Aa, ca, rfl, gv0_6⟩ := led_R hv0_6
 have HVa := zk gv0_6
 clear gv0_6 hv0_6
 obtain ⟨Ab, cb, rfl, gv1_6⟩ := led_R hv1_6
 have HVb := zk gv1_6
 clear gv1_6 hv1_6
 replace HVc := zk (Kd.C_below HVc.out hb6)
 replace HVo := zk (Kd.V_below HVo.out hb6)
 replace HVu1 := zk (Kd.V_below HVu1.out hb6)
 replace HB := zk (below_step HB.out hb6)
 clear hb6
 go_wp2_with (fail)
 refine (impl_WordTo.calls n7 Aa ca a Ab cb b tw one _ (Kd.V_reads' HVa.out).2.2 (Kd.V_reads' HVa.out).2.1 (Kd.V_reads' HVb.out).2.2 (Kd.V_reads' HVb.out).2.1 H7.out).mono ?_
 rintro e_ w7 ⟨rfl, hb7⟩
 replace HVc := zk (Kd.C_below HVc.out hb7)
 replace HVo := zk (Kd.V_below HVo.out hb7)
 replace HVu1 := zk (Kd.V_below HVu1.out hb7)
 replace HVa := zk (Kd.V_below HVa.out hb7)
 replace HVb := zk (Kd.V_below HVb.out hb7)
 replace HB := zk (below_step HB.out hb7)
 clear hb7
 go_wp2_with (fail)
 refine (spec_WordTo.calls n8 Aa ca a Ab cb b tw one _ (Kd.V_reads' HVa.out).2.2 (Kd.V_reads' HVa.out).2.1 (Kd.V_reads' HVb.out).2.2 (Kd.V_reads' HVb.out).2.1 H8.out).mono ?_
 rintro e_ w8 ⟨rfl, hb8⟩
 replace HVc := zk (Kd.C_below HVc.out hb8)
 replace HVo := zk (Kd.V_below HVo.out hb8)
 replace HVu1 := zk (Kd.V_below HVu1.out hb8)
 replace HVa := zk (Kd.V_below HVa.out hb8)
 replace HVb := zk (Kd.V_below HVb.out hb8)
 replace HB := zk (below_step HB.out hb8)
 clear hb8
 go_wp2_with (fail)
 refine (spec_DrawMirrorWord.calls n9 A0 c0 l0 x _ HVc.out HC0.out H9.out).mono ?_
 rintro e_ w9 ⟨rfl, hb9⟩
 replace HVc := zk (Kd.C_below HVc.out hb9)
 replace HVo := zk (Kd.V_below HVo.out hb9)
 replace HVu1 := zk (Kd.V_below HVu1.out hb9)
 replace HVa := zk (Kd.V_below HVa.out hb9)
 replace HVb := zk (Kd.V_below HVb.out hb9)
 replace HB := zk (below_step HB.out hb9)
 clear hb9
 go_wp2_with (fail)
 refine (impl_MirrorWord.calls n10 x mir two _ H10.out).mono ?_
 rintro e_ w10 ⟨rfl, hb10⟩
 replace HVc := zk (Kd.C_below HVc.out hb10)
 replace HVo := zk (Kd.V_below HVo.out hb10)
 replace HVu1 := zk (Kd.V_below HVu1.out hb10)
 replace HVa := zk (Kd.V_below HVa.out hb10)
 replace HVb := zk (Kd.V_below HVb.out hb10)
 replace HB := zk (below_step HB.out hb10)
 clear hb10
 go_wp2_with (fail)
 refine (spec_MirrorWord.calls n11 x mir two _ H11.out).mono ?_
 rintro e_ w11 ⟨rfl, hb11⟩
 replace hb11 := hb11.below
 replace HVc := zk (Kd.C_below HVc.out hb11)
 replace HVo := zk (Kd.V_below HVo.out hb11)
 replace HVu1 := zk (Kd.V_below HVu1.out hb11)
 replace HVa := zk (Kd.V_below HVa.out hb11)
 replace HVb := zk (Kd.V_below HVb.out hb11)
 replace HB := zk (below_step HB.out hb11)
 clear hb11
 go_wp2_with (fail)
 refine (impl_IsWord.calls n12 x two _ H12.out).mono ?_
 rintro e_ w12 ⟨rfl, hb12⟩
 replace HVc := zk (Kd.C_below HVc.out hb12)
 replace HVo := zk (Kd.V_below HVo.out hb12)
 replace HVu1 := zk (Kd.V_below HVu1.out hb12)
 replace HVa := zk (Kd.V_below HVa.out hb12)
 replace HVb := zk (Kd.V_below HVb.out hb12)
 replace HB := zk (below_step HB.out hb12)
 clear hb12
 go_wp2_with (fail)
 refine (impl_DepthOf.calls n13 x deep two _ H13.out).mono ?_
 rintro e_ w13 ⟨rfl, hb13⟩
 replace HVc := zk (Kd.C_below HVc.out hb13)
 replace HVo := zk (Kd.V_below HVo.out hb13)
 replace HVu1 := zk (Kd.V_below HVu1.out hb13)
 replace HVa := zk (Kd.V_below HVa.out hb13)
 replace HVb := zk (Kd.V_below HVb.out hb13)
 replace HB := zk (below_step HB.out hb13)
 clear hb13
 go_wp2_with (fail)
 refine (spec_DepthOf.calls n14 x deep two _ H14.out).mono ?_
 rintro e_ w14 ⟨rfl, hb14⟩
 replace hb14 := hb14.below
 replace HVc := zk (Kd.C_below HVc.out hb14)
 replace HVo := zk (Kd.V_below HVo.out hb14)
 replace HVu1 := zk (Kd.V_below HVu1.out hb14)
 replace HVa := zk (Kd.V_below HVa.out hb14)
 replace HVb := zk (Kd.V_below HVb.out hb14)
 replace HB := zk (below_step HB.out hb14)
 clear hb14
 go_wp2_with (fail)
 refine (spec_DrawWordsOf.calls A0 c0 l0 n _ HVc.out HC0.out H15.out).mono ?_
 rintro e_ w15 ⟨rfl, hb15⟩
 replace HVc := zk (Kd.C_below HVc.out hb15)
 replace HVo := zk (Kd.V_below HVo.out hb15)
 replace HVu1 := zk (Kd.V_below HVu1.out hb15)
 replace HVa := zk (Kd.V_below HVa.out hb15)
 replace HVb := zk (Kd.V_below HVb.out hb15)
 replace HB := zk (below_step HB.out hb15)
 clear hb15
 go_wp2_with (fail)
 refine (impl_WordsOf.calls n16 n words four _ H16.out).mono ?_
 rintro e_ w16 ⟨v0_16, rfl, hv0_16, hb16⟩
 obtain ⟨Ad1, cd1, rfl, gv0_16⟩ := led_R hv0_16
 have HVd1 := zk gv0_16
 clear gv0_16 hv0_16
 replace HVc := zk (Kd.C_below HVc.out hb16)
 replace HVo := zk (Kd.V_below HVo.out hb16)
 replace HVu1 := zk (Kd.V_below HVu1.out hb16)
 replace HVa := zk (Kd.V_below HVa.out hb16)
 replace HVb := zk (Kd.V_below HVb.out hb16)
 replace HB := zk (below_step HB.out hb16)
 clear hb16
 go_wp2_with (fail)
 refine (spec_WordsOf.calls n17 n words four _ H17.out).mono ?_
 rintro e_ w17 ⟨v0_17, rfl, hv0_17, hb17⟩
 obtain ⟨Ad2, cd2, rfl, gv0_17⟩ := led_R hv0_17
 have HVd2 := zk gv0_17
 clear gv0_17 hv0_17
 replace HVc := zk (Kd.C_below HVc.out hb17)
 replace HVo := zk (Kd.V_below HVo.out hb17)
 replace HVu1 := zk (Kd.V_below HVu1.out hb17)
 replace HVa := zk (Kd.V_below HVa.out hb17)
 replace HVb := zk (Kd.V_below HVb.out hb17)
 replace HVd1 := zk (Kd.V_below HVd1.out hb17)
 replace HB := zk (below_step HB.out hb17)
 clear hb17
 go_wp2_with (fail)
 refine (laws_rTexts.calls n18 Ad1 cd1 words Ad2 cd2 words true _ (Kd.V_reads' HVd1.out).2.2 (Kd.V_reads' HVd1.out).2.1 (Kd.V_reads' HVd2.out).2.2 (Kd.V_reads' HVd2.out).2.1 H18.out).mono ?_
 rintro e_ w18 ⟨rfl, hb18⟩
 replace hb18 := hb18.below
 replace HVc := zk (Kd.C_below HVc.out hb18)
 replace HVo := zk (Kd.V_below HVo.out hb18)
 replace HVu1 := zk (Kd.V_below HVu1.out hb18)
 replace HVa := zk (Kd.V_below HVa.out hb18)
 replace HVb := zk (Kd.V_below HVb.out hb18)
 replace HVd1 := zk (Kd.V_below HVd1.out hb18)
 replace HVd2 := zk (Kd.V_below HVd2.out hb18)
 replace HB := zk (below_step HB.out hb18)
 clear hb18
 clear HVd1
 clear HVd2
 go_wp2_with (fail)
 refine (spec_DrawOutputsOf.calls n19 A0 c0 l0 y _ HVc.out HC0.out H19.out).mono ?_
 rintro e_ w19 ⟨v0_19, rfl, hv0_19, hb19⟩
 obtain ⟨Ay, cy, rfl, gv0_19⟩ := led_R hv0_19
 have HVy := zk gv0_19
 clear gv0_19 hv0_19
 replace HVc := zk (Kd.C_below HVc.out hb19)
 replace HVo := zk (Kd.V_below HVo.out hb19)
 replace HVu1 := zk (Kd.V_below HVu1.out hb19)
 replace HVa := zk (Kd.V_below HVa.out hb19)
 replace HVb := zk (Kd.V_below HVb.out hb19)
 replace HB := zk (below_step HB.out hb19)
 clear hb19
 clear HVc
 go_wp2_with (fail)
 refine (impl_OutputsOf.calls n20 Ay cy y outs five _ (Kd.V_reads' HVy.out).2.2 (Kd.V_reads' HVy.out).2.1 H20.out).mono ?_
 rintro e_ w20 ⟨v0_20, rfl, hv0_20, hb20⟩
 obtain ⟨Ae1, ce1, rfl, gv0_20⟩ := led_S hv0_20
 have HVe1 := zk gv0_20
 clear gv0_20 hv0_20
 replace HVo := zk (Kd.V_below HVo.out hb20)
 replace HVu1 := zk (Kd.V_below HVu1.out hb20)
 replace HVa := zk (Kd.V_below HVa.out hb20)
 replace HVb := zk (Kd.V_below HVb.out hb20)
 replace HVy := zk (Kd.V_below HVy.out hb20)
 replace HB := zk (below_step HB.out hb20)
 clear hb20
 go_wp2_with (fail)
 refine (spec_OutputsOf.calls n21 Ay cy y outs five _ (Kd.V_reads' HVy.out).2.2 (Kd.V_reads' HVy.out).2.1 H21.out).mono ?_
 rintro e_ w21 ⟨v0_21, rfl, hv0_21, hb21⟩
 obtain ⟨Ae2, ce2, rfl, gv0_21⟩ := led_N hv0_21
 have HVe2 := zk gv0_21
 clear gv0_21 hv0_21
 replace HVo := zk (Kd.V_below HVo.out hb21)
 replace HVu1 := zk (Kd.V_below HVu1.out hb21)
 replace HVa := zk (Kd.V_below HVa.out hb21)
 replace HVb := zk (Kd.V_below HVb.out hb21)
 replace HVy := zk (Kd.V_below HVy.out hb21)
 replace HVe1 := zk (Kd.V_below HVe1.out hb21)
 replace HB := zk (below_step HB.out hb21)
 clear hb21
 go_wp2_with (fail)
 refine (laws_rLists.calls n22 Ae1 ce1 outs Ae2 ce2 outs true _ (Kd.V_reads' HVe1.out).2.2 (Kd.V_reads' HVe1.out).2.1 (Kd.V_reads' HVe2.out).2.2 (Kd.V_reads' HVe2.out).2.1 H22.out).mono ?_
 rintro e_ w22 ⟨rfl, hb22⟩
 replace hb22 := hb22.below
 replace HVo := zk (Kd.V_below HVo.out hb22)
 replace HVu1 := zk (Kd.V_below HVu1.out hb22)
 replace HVa := zk (Kd.V_below HVa.out hb22)
 replace HVb := zk (Kd.V_below HVb.out hb22)
 replace HVy := zk (Kd.V_below HVy.out hb22)
 replace HVe1 := zk (Kd.V_below HVe1.out hb22)
 replace HVe2 := zk (Kd.V_below HVe2.out hb22)
 replace HB := zk (below_step HB.out hb22)
 clear hb22
 clear HVe2
 cases one with
 | false =>
  clear hone
  cases two with
  | false =>
   clear htwo
   cases five with
   | false =>
    clear hfive
    cases ok with
    | false =>
     go_wp2_with (fail)
     go_ret
     exact ⟨rfl, HB.out⟩
    | true =>
     obtain ⟨ko, fko⟩ := hok.out rfl
     have XO := zk (fko ko (Nat.le_refl _))
     clear fko
     go_wp2_with (fail)
     refine (impl_WordTo.calls ko Ao co o Au1 cu1 out w_ true _ (Kd.V_reads' HVo.out).2.2 (Kd.V_reads' HVo.out).2.1 (Kd.V_reads' HVu1.out).2.2 (Kd.V_reads' HVu1.out).2.1 XO.out).mono ?_
     rintro e_ w23 ⟨rfl, hb23⟩
     replace HVo := zk (Kd.V_below HVo.out hb23)
     replace HVu1 := zk (Kd.V_below HVu1.out hb23)
     replace HVa := zk (Kd.V_below HVa.out hb23)
     replace HVb := zk (Kd.V_below HVb.out hb23)
     replace HVy := zk (Kd.V_below HVy.out hb23)
     replace HVe1 := zk (Kd.V_below HVe1.out hb23)
     replace HB := zk (below_step HB.out hb23)
     clear hb23
     go_wp2_with (fail)
     go_ret
     exact ⟨rfl, HB.out⟩
   | true =>
    obtain ⟨own, hw1, hw2⟩ := hfive.out rfl
    obtain ⟨kf, fkf⟩ := hw1
    have XF := zk (fkf kf (Nat.le_refl _))
    clear fkf
    have hne : ((own.length : Int) != (outs.length : Int)) = false := by rw [hw2]; simp
    clear hw2
    go_wp2_with (fail)
    refine (impl_WordsOf.calls kf ((y.length : Int)) own true _ XF.out).mono ?_
    rintro e_ w23 ⟨v0_23, rfl, hv0_23, hb23⟩
    obtain ⟨Aow, cow, rfl, gv0_23⟩ := led_R hv0_23
    have HVow := zk gv0_23
    clear gv0_23 hv0_23
    replace HVo := zk (Kd.V_below HVo.out hb23)
    replace HVu1 := zk (Kd.V_below HVu1.out hb23)
    replace HVa := zk (Kd.V_below HVa.out hb23)
    replace HVb := zk (Kd.V_below HVb.out hb23)
    replace HVy := zk (Kd.V_below HVy.out hb23)
    replace HVe1 := zk (Kd.V_below HVe1.out hb23)
    replace HB := zk (below_step HB.out hb23)
    clear hb23
    clear HVow
    clear XF hfive
    cases ok with
    | false =>
     go_wp2_with (fail)
     go_ret
     exact ⟨rfl, HB.out⟩
    | true =>
     obtain ⟨ko, fko⟩ := hok.out rfl
     have XO := zk (fko ko (Nat.le_refl _))
     clear fko
     go_wp2_with (fail)
     refine (impl_WordTo.calls ko Ao co o Au1 cu1 out w_ true _ (Kd.V_reads' HVo.out).2.2 (Kd.V_reads' HVo.out).2.1 (Kd.V_reads' HVu1.out).2.2 (Kd.V_reads' HVu1.out).2.1 XO.out).mono ?_
     rintro e_ w24 ⟨rfl, hb24⟩
     replace HVo := zk (Kd.V_below HVo.out hb24)
     replace HVu1 := zk (Kd.V_below HVu1.out hb24)
     replace HVa := zk (Kd.V_below HVa.out hb24)
     replace HVb := zk (Kd.V_below HVb.out hb24)
     replace HVy := zk (Kd.V_below HVy.out hb24)
     replace HVe1 := zk (Kd.V_below HVe1.out hb24)
     replace HB := zk (below_step HB.out hb24)
     clear hb24
     go_wp2_with (fail)
     go_ret
     exact ⟨rfl, HB.out⟩
  | true =>
   obtain ⟨hm1, hm2⟩ := htwo.out rfl
   obtain ⟨km, fkm⟩ := hm1
   have XM := zk (fkm km (Nat.le_refl _))
   clear fkm
   obtain ⟨kd, fkd⟩ := hm2
   have XD := zk (fkd kd (Nat.le_refl _))
   clear fkd
   go_wp2_with (fail)
   refine (impl_MirrorWord.calls km mir x true _ XM.out).mono ?_
   rintro e_ w23 ⟨rfl, hb23⟩
   replace HVo := zk (Kd.V_below HVo.out hb23)
   replace HVu1 := zk (Kd.V_below HVu1.out hb23)
   replace HVa := zk (Kd.V_below HVa.out hb23)
   replace HVb := zk (Kd.V_below HVb.out hb23)
   replace HVy := zk (Kd.V_below HVy.out hb23)
   replace HVe1 := zk (Kd.V_below HVe1.out hb23)
   replace HB := zk (below_step HB.out hb23)
   clear hb23
   go_wp2_with (fail)
   refine (impl_DepthOf.calls kd mir deep true _ XD.out).mono ?_
   rintro e_ w24 ⟨rfl, hb24⟩
   replace HVo := zk (Kd.V_below HVo.out hb24)
   replace HVu1 := zk (Kd.V_below HVu1.out hb24)
   replace HVa := zk (Kd.V_below HVa.out hb24)
   replace HVb := zk (Kd.V_below HVb.out hb24)
   replace HVy := zk (Kd.V_below HVy.out hb24)
   replace HVe1 := zk (Kd.V_below HVe1.out hb24)
   replace HB := zk (below_step HB.out hb24)
   clear hb24
   clear XM XD htwo
   cases five with
   | false =>
    clear hfive
    cases ok with
    | false =>
     go_wp2_with (fail)
     go_ret
     exact ⟨rfl, HB.out⟩
    | true =>
     obtain ⟨ko, fko⟩ := hok.out rfl
     have XO := zk (fko ko (Nat.le_refl _))
     clear fko
     go_wp2_with (fail)
     refine (impl_WordTo.calls ko Ao co o Au1 cu1 out w_ true _ (Kd.V_reads' HVo.out).2.2 (Kd.V_reads' HVo.out).2.1 (Kd.V_reads' HVu1.out).2.2 (Kd.V_reads' HVu1.out).2.1 XO.out).mono ?_
     rintro e_ w25 ⟨rfl, hb25⟩
     replace HVo := zk (Kd.V_below HVo.out hb25)
     replace HVu1 := zk (Kd.V_below HVu1.out hb25)
     replace HVa := zk (Kd.V_below HVa.out hb25)
     replace HVb := zk (Kd.V_below HVb.out hb25)
     replace HVy := zk (Kd.V_below HVy.out hb25)
     replace HVe1 := zk (Kd.V_below HVe1.out hb25)
     replace HB := zk (below_step HB.out hb25)
     clear hb25
     go_wp2_with (fail)
     go_ret
     exact ⟨rfl, HB.out⟩
   | true =>
    obtain ⟨own, hw1, hw2⟩ := hfive.out rfl
    obtain ⟨kf, fkf⟩ := hw1
    have XF := zk (fkf kf (Nat.le_refl _))
    clear fkf
    have hne : ((own.length : Int) != (outs.length : Int)) = false := by rw [hw2]; simp
    clear hw2
    go_wp2_with (fail)
    refine (impl_WordsOf.calls kf ((y.length : Int)) own true _ XF.out).mono ?_
    rintro e_ w25 ⟨v0_25, rfl, hv0_25, hb25⟩
    obtain ⟨Aow, cow, rfl, gv0_25⟩ := led_R hv0_25
    have HVow := zk gv0_25
    clear gv0_25 hv0_25
    replace HVo := zk (Kd.V_below HVo.out hb25)
    replace HVu1 := zk (Kd.V_below HVu1.out hb25)
    replace HVa := zk (Kd.V_below HVa.out hb25)
    replace HVb := zk (Kd.V_below HVb.out hb25)
    replace HVy := zk (Kd.V_below HVy.out hb25)
    replace HVe1 := zk (Kd.V_below HVe1.out hb25)
    replace HB := zk (below_step HB.out hb25)
    clear hb25
    clear HVow
    clear XF hfive
    cases ok with
    | false =>
     go_wp2_with (fail)
     go_ret
     exact ⟨rfl, HB.out⟩
    | true =>
     obtain ⟨ko, fko⟩ := hok.out rfl
     have XO := zk (fko ko (Nat.le_refl _))
     clear fko
     go_wp2_with (fail)
     refine (impl_WordTo.calls ko Ao co o Au1 cu1 out w_ true _ (Kd.V_reads' HVo.out).2.2 (Kd.V_reads' HVo.out).2.1 (Kd.V_reads' HVu1.out).2.2 (Kd.V_reads' HVu1.out).2.1 XO.out).mono ?_
     rintro e_ w26 ⟨rfl, hb26⟩
     replace HVo := zk (Kd.V_below HVo.out hb26)
     replace HVu1 := zk (Kd.V_below HVu1.out hb26)
     replace HVa := zk (Kd.V_below HVa.out hb26)
     replace HVb := zk (Kd.V_below HVb.out hb26)
     replace HVy := zk (Kd.V_below HVy.out hb26)
     replace HVe1 := zk (Kd.V_below HVe1.out hb26)
     replace HB := zk (below_step HB.out hb26)
     clear hb26
     go_wp2_with (fail)
     go_ret
     exact ⟨rfl, HB.out⟩
 | true =>
  obtain ⟨hr1, hr2⟩ := hone.out rfl
  obtain ⟨kr, fkr⟩ := hr1
  have XR := zk (fkr kr (Nat.le_refl _))
  clear fkr
  obtain ⟨ki, fki⟩ := hr2
  have XI := zk (fki ki (Nat.le_refl _))
  clear fki
  go_wp2_with (fail)
  refine (impl_RunWord.calls kr Aa ca a tw b true _ (Kd.V_reads' HVa.out).2.2 (Kd.V_reads' HVa.out).2.1 XR.out).mono ?_
  rintro e_ w23 ⟨v0_23, rfl, hv0_23, hb23⟩
  obtain ⟨Aob, cob, rfl, gv0_23⟩ := led_R hv0_23
  have HVob := zk gv0_23
  clear gv0_23 hv0_23
  replace HVo := zk (Kd.V_below HVo.out hb23)
  replace HVu1 := zk (Kd.V_below HVu1.out hb23)
  replace HVa := zk (Kd.V_below HVa.out hb23)
  replace HVb := zk (Kd.V_below HVb.out hb23)
  replace HVy := zk (Kd.V_below HVy.out hb23)
  replace HVe1 := zk (Kd.V_below HVe1.out hb23)
  replace HB := zk (below_step HB.out hb23)
  clear hb23
  go_wp2_with (fail)
  refine (laws_rInts.calls ki Aob cob b Ab cb b true _ (Kd.V_reads' HVob.out).2.2 (Kd.V_reads' HVob.out).2.1 (Kd.V_reads' HVb.out).2.2 (Kd.V_reads' HVb.out).2.1 XI.out).mono ?_
  rintro e_ w24 ⟨rfl, hb24⟩
  replace hb24 := hb24.below
  replace HVo := zk (Kd.V_below HVo.out hb24)
  replace HVu1 := zk (Kd.V_below HVu1.out hb24)
  replace HVa := zk (Kd.V_below HVa.out hb24)
  replace HVb := zk (Kd.V_below HVb.out hb24)
  replace HVy := zk (Kd.V_below HVy.out hb24)
  replace HVe1 := zk (Kd.V_below HVe1.out hb24)
  replace HVob := zk (Kd.V_below HVob.out hb24)
  replace HB := zk (below_step HB.out hb24)
  clear hb24
  clear HVob
  clear XR XI hone
  cases two with
  | false =>
   clear htwo
   cases five with
   | false =>
    clear hfive
    cases ok with
    | false =>
     go_wp2_with (fail)
     go_ret
     exact ⟨rfl, HB.out⟩
    | true =>
     obtain ⟨ko, fko⟩ := hok.out rfl
     have XO := zk (fko ko (Nat.le_refl _))
     clear fko
     go_wp2_with (fail)
     refine (impl_WordTo.calls ko Ao co o Au1 cu1 out w_ true _ (Kd.V_reads' HVo.out).2.2 (Kd.V_reads' HVo.out).2.1 (Kd.V_reads' HVu1.out).2.2 (Kd.V_reads' HVu1.out).2.1 XO.out).mono ?_
     rintro e_ w25 ⟨rfl, hb25⟩
     replace HVo := zk (Kd.V_below HVo.out hb25)
     replace HVu1 := zk (Kd.V_below HVu1.out hb25)
     replace HVa := zk (Kd.V_below HVa.out hb25)
     replace HVb := zk (Kd.V_below HVb.out hb25)
     replace HVy := zk (Kd.V_below HVy.out hb25)
     replace HVe1 := zk (Kd.V_below HVe1.out hb25)
     replace HB := zk (below_step HB.out hb25)
     clear hb25
     go_wp2_with (fail)
     go_ret
     exact ⟨rfl, HB.out⟩
   | true =>
    obtain ⟨own, hw1, hw2⟩ := hfive.out rfl
    obtain ⟨kf, fkf⟩ := hw1
    have XF := zk (fkf kf (Nat.le_refl _))
    clear fkf
    have hne : ((own.length : Int) != (outs.length : Int)) = false := by rw [hw2]; simp
    clear hw2
    go_wp2_with (fail)
    refine (impl_WordsOf.calls kf ((y.length : Int)) own true _ XF.out).mono ?_
    rintro e_ w25 ⟨v0_25, rfl, hv0_25, hb25⟩
    obtain ⟨Aow, cow, rfl, gv0_25⟩ := led_R hv0_25
    have HVow := zk gv0_25
    clear gv0_25 hv0_25
    replace HVo := zk (Kd.V_below HVo.out hb25)
    replace HVu1 := zk (Kd.V_below HVu1.out hb25)
    replace HVa := zk (Kd.V_below HVa.out hb25)
    replace HVb := zk (Kd.V_below HVb.out hb25)
    replace HVy := zk (Kd.V_below HVy.out hb25)
    replace HVe1 := zk (Kd.V_below HVe1.out hb25)
    replace HB := zk (below_step HB.out hb25)
    clear hb25
    clear HVow
    clear XF hfive
    cases ok with
    | false =>
     go_wp2_with (fail)
     go_ret
     exact ⟨rfl, HB.out⟩
    | true =>
     obtain ⟨ko, fko⟩ := hok.out rfl
     have XO := zk (fko ko (Nat.le_refl _))
     clear fko
     go_wp2_with (fail)
     refine (impl_WordTo.calls ko Ao co o Au1 cu1 out w_ true _ (Kd.V_reads' HVo.out).2.2 (Kd.V_reads' HVo.out).2.1 (Kd.V_reads' HVu1.out).2.2 (Kd.V_reads' HVu1.out).2.1 XO.out).mono ?_
     rintro e_ w26 ⟨rfl, hb26⟩
     replace HVo := zk (Kd.V_below HVo.out hb26)
     replace HVu1 := zk (Kd.V_below HVu1.out hb26)
     replace HVa := zk (Kd.V_below HVa.out hb26)
     replace HVb := zk (Kd.V_below HVb.out hb26)
     replace HVy := zk (Kd.V_below HVy.out hb26)
     replace HVe1 := zk (Kd.V_below HVe1.out hb26)
     replace HB := zk (below_step HB.out hb26)
     clear hb26
     go_wp2_with (fail)
     go_ret
     exact ⟨rfl, HB.out⟩
  | true =>
   obtain ⟨hm1, hm2⟩ := htwo.out rfl
   obtain ⟨km, fkm⟩ := hm1
   have XM := zk (fkm km (Nat.le_refl _))
   clear fkm
   obtain ⟨kd, fkd⟩ := hm2
   have XD := zk (fkd kd (Nat.le_refl _))
   clear fkd
   go_wp2_with (fail)
   refine (impl_MirrorWord.calls km mir x true _ XM.out).mono ?_
   rintro e_ w25 ⟨rfl, hb25⟩
   replace HVo := zk (Kd.V_below HVo.out hb25)
   replace HVu1 := zk (Kd.V_below HVu1.out hb25)
   replace HVa := zk (Kd.V_below HVa.out hb25)
   replace HVb := zk (Kd.V_below HVb.out hb25)
   replace HVy := zk (Kd.V_below HVy.out hb25)
   replace HVe1 := zk (Kd.V_below HVe1.out hb25)
   replace HB := zk (below_step HB.out hb25)
   clear hb25
   go_wp2_with (fail)
   refine (impl_DepthOf.calls kd mir deep true _ XD.out).mono ?_
   rintro e_ w26 ⟨rfl, hb26⟩
   replace HVo := zk (Kd.V_below HVo.out hb26)
   replace HVu1 := zk (Kd.V_below HVu1.out hb26)
   replace HVa := zk (Kd.V_below HVa.out hb26)
   replace HVb := zk (Kd.V_below HVb.out hb26)
   replace HVy := zk (Kd.V_below HVy.out hb26)
   replace HVe1 := zk (Kd.V_below HVe1.out hb26)
   replace HB := zk (below_step HB.out hb26)
   clear hb26
   clear XM XD htwo
   cases five with
   | false =>
    clear hfive
    cases ok with
    | false =>
     go_wp2_with (fail)
     go_ret
     exact ⟨rfl, HB.out⟩
    | true =>
     obtain ⟨ko, fko⟩ := hok.out rfl
     have XO := zk (fko ko (Nat.le_refl _))
     clear fko
     go_wp2_with (fail)
     refine (impl_WordTo.calls ko Ao co o Au1 cu1 out w_ true _ (Kd.V_reads' HVo.out).2.2 (Kd.V_reads' HVo.out).2.1 (Kd.V_reads' HVu1.out).2.2 (Kd.V_reads' HVu1.out).2.1 XO.out).mono ?_
     rintro e_ w27 ⟨rfl, hb27⟩
     replace HVo := zk (Kd.V_below HVo.out hb27)
     replace HVu1 := zk (Kd.V_below HVu1.out hb27)
     replace HVa := zk (Kd.V_below HVa.out hb27)
     replace HVb := zk (Kd.V_below HVb.out hb27)
     replace HVy := zk (Kd.V_below HVy.out hb27)
     replace HVe1 := zk (Kd.V_below HVe1.out hb27)
     replace HB := zk (below_step HB.out hb27)
     clear hb27
     go_wp2_with (fail)
     go_ret
     exact ⟨rfl, HB.out⟩
   | true =>
    obtain ⟨own, hw1, hw2⟩ := hfive.out rfl
    obtain ⟨kf, fkf⟩ := hw1
    have XF := zk (fkf kf (Nat.le_refl _))
    clear fkf
    have hne : ((own.length : Int) != (outs.length : Int)) = false := by rw [hw2]; simp
    clear hw2
    go_wp2_with (fail)
    refine (impl_WordsOf.calls kf ((y.length : Int)) own true _ XF.out).mono ?_
    rintro e_ w27 ⟨v0_27, rfl, hv0_27, hb27⟩
    obtain ⟨Aow, cow, rfl, gv0_27⟩ := led_R hv0_27
    have HVow := zk gv0_27
    clear gv0_27 hv0_27
    replace HVo := zk (Kd.V_below HVo.out hb27)
    replace HVu1 := zk (Kd.V_below HVu1.out hb27)
    replace HVa := zk (Kd.V_below HVa.out hb27)
    replace HVb := zk (Kd.V_below HVb.out hb27)
    replace HVy := zk (Kd.V_below HVy.out hb27)
    replace HVe1 := zk (Kd.V_below HVe1.out hb27)
    replace HB := zk (below_step HB.out hb27)
    clear hb27
    clear HVow
    clear XF hfive
    cases ok with
    | false =>
     go_wp2_with (fail)
     go_ret
     exact ⟨rfl, HB.out⟩
    | true =>
     obtain ⟨ko, fko⟩ := hok.out rfl
     have XO := zk (fko ko (Nat.le_refl _))
     clear fko
     go_wp2_with (fail)
     refine (impl_WordTo.calls ko Ao co o Au1 cu1 out w_ true _ (Kd.V_reads' HVo.out).2.2 (Kd.V_reads' HVo.out).2.1 (Kd.V_reads' HVu1.out).2.2 (Kd.V_reads' HVu1.out).2.1 XO.out).mono ?_
     rintro e_ w28 ⟨rfl, hb28⟩
     replace HVo := zk (Kd.V_below HVo.out hb28)
     replace HVu1 := zk (Kd.V_below HVu1.out hb28)
     replace HVa := zk (Kd.V_below HVa.out hb28)
     replace HVb := zk (Kd.V_below HVb.out hb28)
     replace HVy := zk (Kd.V_below HVy.out hb28)
     replace HVe1 := zk (Kd.V_below HVe1.out hb28)
     replace HB := zk (below_step HB.out hb28)
     clear hb28
     go_wp2_with (fail)
     go_ret
     exact ⟨rfl, HB.out⟩
/-- THE ONE PURE STATEMENT of laws_FnStackWords. -/
def laws_FnStackWords.Pure : Prop := ∀ (l0 : List Int), l0.length ≤ maxLen → l0.length * 1 ≤ 140737488351232 → (∀ x ∈ l0, (Lit.int .u8 x).wf = true) → laws_rBig.f l0 = some true ∨ laws_rBig.f l0 = some false ∧ ∃ (o out a b y : List Int) (w_ tw x mir : ByteArray) (words : List ByteArray) (outs : List (List Int)) (n deep : Int) (ok one two four five : Bool), laws_FnStackWords.Facts l0 o out a b y w_ tw x mir words outs n deep ok one two four five
set_option maxHeartbeats 8000000 in
set_option maxRecDepth 100000 in
theorem laws_FnStackWords.big (A0 : Option Addr) (c0 : Nat) (l0 : List Int) (w : World) (hr0 : Kd.C (Kd.int .u8) w A0 l0.length l0) (hc0 : l0.length ≤ c0) (HBG : laws_rBig.f l0 = some true) :
 Calls Try.prog 11 #[.slice A0 l0.length c0] w fun e w' => e = .returned (.bool true) ∧ Below w.heap.size w w' := by
 have HG := zk HBG
 clear HBG
 go_enter Try.func11, Try.ntmps11
 go_wp2_with (fail)
 refine (laws_rBig.calls A0 c0 l0 true _ hr0 hc0 HG.out).mono ?_
 rintro e_ w1 ⟨rfl, hb1⟩
 replace hb1 := hb1.below
 go_wp2_with (fail)
 go_ret
 exact ⟨rfl, hb1⟩
theorem laws_FnStackWords.walk (P : laws_FnStackWords.Pure) (a0 : Option Addr) (len0 cap0 : Nat) (z0 : List Int) (w : World) (w0 : (a0 = none ∧ len0 = 0 ∧ cap0 = 0 ∧ z0 = []) ∨ ∃ x, a0 = some x ∧ len0 ≤ cap0 ∧ cap0 ≤ maxLen ∧ z0.length = cap0 ∧ (∀ i, i < z0.length → w.cell? (x.add i) = some (.int .u8 (z0.getD i 0))) ∧ ∀ n ∈ z0, (Lit.int .u8 n).wf = true) (y0 : len0 * 1 ≤ 140737488351232) :
 Calls Try.prog 11 #[.slice a0 len0 cap0] w fun e w' => e = .returned (.bool true) ∧ Below w.heap.size w w' := by
 obtain ⟨l0, rfl, hr0, hm0, hw0, hc0⟩ := ReadsInt.ofRowC w0
 rcases P l0 hm0 y0 hw0 with h | ⟨h, o, out, a, b, y, w_, tw, x, mir, words, outs, n, deep, ok, one, two, four, five, F⟩
 · exact laws_FnStackWords.big _ _ l0 w (Kd.C_of_reads (d := (0 : Int)) (h1 := fun _ => rfl) hr0) hc0 h
 · exact laws_FnStackWords.own o out a b y w_ tw x mir words outs n deep ok one two four five _ _ l0 w (Kd.C_of_reads (d := (0 : Int)) (h1 := fun _ => rfl) hr0) hc0 h F
end

end Go.Proofs.Ytlkddcabjcejdaa.MFnStackWords
