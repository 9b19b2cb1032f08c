/- The functions that FnOrders comes to, with a walk for each. Made by this session's own program (wip/tools/mk.py), in the form of the kit's print; walks named in NOTES.md were written by hand. -/
import Derived.Test.YtlkddcabjcejdaaMFnOrdersx0
import Derived.Test.YtlkddcabjcejdaaMFnOrdersx1
import Derived.Test.YtlkddcabjcejdaaMFnOrdersx3
import Derived.Test.YtlkddcabjcejdaaMFnOrdersx4
import Derived.Test.YtlkddcabjcejdaaMFnOrdersx5
import Derived.Test.YtlkddcabjcejdaaMFnOrdersx6
import Derived.Test.YtlkddcabjcejdaaMFnOrdersx7
import Derived.Test.YtlkddcabjcejdaaMFnOrdersx8
import Derived.Test.YtlkddcabjcejdaaMFnOrdersx9
import Derived.Test.YtlkddcabjcejdaaMFnOrdersx10
import Derived.Test.YtlkddcabjcejdaaMFnOrdersx11
namespace Go.Proofs.Ytlkddcabjcejdaa.MFnOrders
open Go.RowKit Go.Proofs.YtlkddcabjcejdaaW.PrintWords Go.Proofs.YtlkddcabjcejdaaW.PrintLast Go.Proofs.YtlkddcabjcejdaaW.PrintMore
attribute [local go_sem] max2_int min2_int max_two min_two max_three min_three max_four min_four   -- for this text's walks alone
set_option linter.unusedVariables false
set_option linter.unusedSimpArgs false

/-! ### laws_FnOrders: function 9 -/
section
open Go.Proofs.Ytlkddcabjcejdaa.Base
theorem led_V {α : Type} {d : Kd α} {e b : Nat} {W : World} {ok : Nat → Prop} {v : Value} {xs : List α} (h : Kd.V d e W b ok v xs) : ∃ A c, v = .slice A xs.length c ∧ Kd.V d e W 0 (fun _ => True) (.slice A xs.length c) xs := by
  obtain ⟨A, c, rfl⟩ := Kd.V_slice h
  exact ⟨A, c, rfl, Kd.V_mono h (fun _ _ => trivial)⟩
theorem led_R {α : Type} {d : Kd α} {e b : Nat} {W : World} {ok : Nat → Prop} {v : Value} {xs : List α} (h : Kd.R d e W b ok v xs) : ∃ A c, v = .slice A xs.length c ∧ Kd.V d e W 0 (fun _ => True) (.slice A xs.length c) xs := led_V (Kd.R_V (base' := 0) h)
theorem led_S {α : Type} {d : Kd α} {e b : Nat} {W : World} {ok : Nat → Prop} {v : Value} {xs : List α} (h : Kd.S d e W b ok v xs) : ∃ A c, v = .slice A xs.length c ∧ Kd.V d e W 0 (fun _ => True) (.slice A xs.length c) xs := led_V (Kd.S_V (base' := 0) h)
theorem led_N {α : Type} {d : Kd α} {e b : Nat} {W : World} {ok : Nat → Prop} {v : Value} {xs : List α} (h : Kd.N d e W b ok v xs) : ∃ A c, v = .slice A xs.length c ∧ Kd.V d e W 0 (fun _ => True) (.slice A xs.length c) xs := led_V (Kd.N_V (base' := 0) h)
theorem led_row {W : World} {A : Option Addr} {c : Nat} {e : TypeId} {rows : List (List Int)} (h : Kd.V (Kd.slice 3 (Kd.int .i64)) e W 0 (fun _ => True) (.slice A rows.length c) rows) (i : Nat) (hi : i < rows.length) : ∃ ad A' c', A = some ad ∧ W.cell? (ad.add i) = some (.slice A' (rows.getD i []).length c') ∧ Kd.V (Kd.int .i64) 3 W 0 (fun _ => True) (.slice A' (rows.getD i []).length c') (rows.getD i []) := by
  obtain ⟨ad, cs, e1, _, hK, hc, _⟩ := Kd.F_get (Kd.V_F h) ([] : List Int) (i : Int) (by omega) (by omega)
  obtain ⟨A', c', rfl, hl, hf⟩ := Kd.FK_slice_open hK
  have h0 := hc 0 _ rfl
  simp only [Int.toNat_natCast] at h0 hl hf
  rw [show (Kd.slice 3 (Kd.int .i64)).sz = 1 from rfl, Nat.mul_one, Nat.add_zero] at h0
  exact ⟨ad, A', c', e1, h0, Kd.V_mk hl hf⟩
theorem led_int {W : World} {A : Option Addr} {c : Nat} {e : TypeId} {xs : List Int} (h : Kd.V (Kd.int .i64) e W 0 (fun _ => True) (.slice A xs.length c) xs) (i : Nat) (hi : i < xs.length) : ∃ ad, A = some ad ∧ W.cell? (ad.add i) = some (.int .i64 (xs.getD i 0)) := by
  obtain ⟨ad, e1, hc⟩ := Kd.at_int (Kd.V_reads' h).2.2 (i : Int) (by omega) (by omega)
  rw [Int.toNat_natCast, show rd xs (i : Int) = xs.getD i 0 from rfl] at hc
  exact ⟨ad, e1, hc⟩
/-- What the calls of the law answer, and what the law asks of it. -/
structure laws_FnOrders.Facts (l0 : List Int) (o inv back oth a b made at_ read pl : List Int) (rank many n k_ few : Int) (text s : ByteArray) (ok six seven eight : Bool) : Prop where
  e1 : laws_rBig.f l0 = some false
  e2 : Ev (fun k => spec_DrawInverseOrder.f k l0) o
  e3 : Ev (fun k => impl_InverseOrder.f k o) ((inv, ok))
  e4 : Ev (fun k => spec_InverseOrder.f k o) ((inv, ok))
  e5 : Ev (fun k => impl_IsOrder.f k o) ok
  e6 : Ev (fun k => laws_rInts.f k inv inv) true
  e7 : Ev (fun k => impl_BackOrder.f k o) ((back, ok))
  e8 : Ev (fun k => spec_BackOrder.f k o) ((back, ok))
  e9 : Ev (fun k => laws_rInts.f k back back) true
  e10 : Ev (fun k => impl_OtherOrder.f k o) ((oth, ok))
  e11 : Ev (fun k => spec_OtherOrder.f k o) ((oth, ok))
  e12 : Ev (fun k => laws_rInts.f k oth oth) true
  e13 : Ev (fun k => impl_RankOfOrder.f k o) ((rank, ok))
  e14 : Ev (fun k => spec_RankOfOrder.f k o) ((rank, ok))
  e15 : Ev (fun k => impl_CountInversions.f k o) ((many, ok))
  e16 : Ev (fun k => spec_CountInversions.f k o) ((many, ok))
  e17 : Ev (fun k => impl_OrderText.f k o) ((text, ok))
  e18 : Ev (fun k => spec_OrderText.f k o) ((text, ok))
  e19 : Ev (fun k => spec_DrawComposeOrders.f k l0) ((a, b))
  e20 : Ev (fun k => impl_ComposeOrders.f k a b) ((made, six))
  e21 : Ev (fun k => spec_ComposeOrders.f k a b) ((made, six))
  e22 : Ev (fun k => laws_rInts.f k made made) true
  e23 : Ev (fun k => spec_DrawOrderAt.f k l0) ((n, k_))
  e24 : Ev (fun k => impl_OrderAt.f k n k_) ((at_, seven))
  e25 : Ev (fun k => spec_OrderAt.f k n k_) ((at_, seven))
  e26 : Ev (fun k => laws_rInts.f k at_ at_) true
  e27 : Ev (fun k => spec_DrawParseOrder.f k l0) s
  e28 : Ev (fun k => impl_ParseOrder.f k s) ((read, eight))
  e29 : Ev (fun k => spec_ParseOrder.f k s) ((read, eight))
  e30 : Ev (fun k => laws_rInts.f k read read) true
  hseven : seven = true → Ev (fun k => impl_RankOfOrder.f k at_) (k_, true)
  height : eight = true → Ev (fun k => impl_OrderText.f k read) (s, true)
  hok : ok = true → Ev (fun k => impl_InverseOrder.f k inv) (o, true) ∧ Ev (fun k => impl_ComposeOrders.f k o inv) (pl, true) ∧ Ev (fun k => impl_BackOrder.f k back) (o, true) ∧ Ev (fun k => impl_OtherOrder.f k oth) (o, true) ∧ Ev (fun k => impl_CountInversions.f k back) (few, true) ∧ Ev (fun k => impl_OrderAt.f k (o.length : Int) rank) (o, true) ∧ Ev (fun k => laws_rInts.f k o o) true ∧ Ev (fun k => laws_rSorted.f k pl) true ∧ (0 ≤ few ∧ few ≤ 100 ∧ 0 ≤ many ∧ many ≤ 100 ∧ o.length ≤ 7 ∧ few + many = ((o.length : Int) * ((o.length : Int) - 1)) / 2)
set_option maxHeartbeats 16000000 in
set_option maxRecDepth 100000 in
theorem laws_FnOrders.own (o inv back oth a b made at_ read pl : List Int) (rank many n k_ few : Int) (text s : ByteArray) (ok six seven eight : Bool) (A0 : Option Addr) (c0 : Nat) (l0 : List Int) (w : World) (hr0 : Kd.C (Kd.int .u8) w A0 l0.length l0) (hc0 : l0.length ≤ c0) (HBG : laws_rBig.f l0 = some false) (F : laws_FnOrders.Facts l0 o inv back oth a b made at_ read pl rank many n k_ few text s ok six seven eight) :
    Calls Try.prog 9 #[.slice A0 l0.length c0] w fun e w' => e = .returned (.bool true) ∧ Below w.heap.size w w' := by
  have HVc := Aside0.mk hr0
  have HC0 := Aside0.mk hc0
  have H0 := Aside0.mk HBG
  have HB := Aside0.mk (Below.refl w.heap.size w)
  have H1 := Aside0.mk F.e1
  obtain ⟨n2, f2⟩ := F.e2
  have H2 := Aside0.mk (f2 n2 (Nat.le_refl _))
  clear f2
  obtain ⟨n3, f3⟩ := F.e3
  have H3 := Aside0.mk (f3 n3 (Nat.le_refl _))
  clear f3
  obtain ⟨n4, f4⟩ := F.e4
  have H4 := Aside0.mk (f4 n4 (Nat.le_refl _))
  clear f4
  obtain ⟨n5, f5⟩ := F.e5
  have H5 := Aside0.mk (f5 n5 (Nat.le_refl _))
  clear f5
  obtain ⟨n6, f6⟩ := F.e6
  have H6 := Aside0.mk (f6 n6 (Nat.le_refl _))
  clear f6
  obtain ⟨n7, f7⟩ := F.e7
  have H7 := Aside0.mk (f7 n7 (Nat.le_refl _))
  clear f7
  obtain ⟨n8, f8⟩ := F.e8
  have H8 := Aside0.mk (f8 n8 (Nat.le_refl _))
  clear f8
  obtain ⟨n9, f9⟩ := F.e9
  have H9 := Aside0.mk (f9 n9 (Nat.le_refl _))
  clear f9
  obtain ⟨n10, f10⟩ := F.e10
  have H10 := Aside0.mk (f10 n10 (Nat.le_refl _))
  clear f10
  obtain ⟨n11, f11⟩ := F.e11
  have H11 := Aside0.mk (f11 n11 (Nat.le_refl _))
  clear f11
  obtain ⟨n12, f12⟩ := F.e12
  have H12 := Aside0.mk (f12 n12 (Nat.le_refl _))
  clear f12
  obtain ⟨n13, f13⟩ := F.e13
  have H13 := Aside0.mk (f13 n13 (Nat.le_refl _))
  clear f13
  obtain ⟨n14, f14⟩ := F.e14
  have H14 := Aside0.mk (f14 n14 (Nat.le_refl _))
  clear f14
  obtain ⟨n15, f15⟩ := F.e15
  have H15 := Aside0.mk (f15 n15 (Nat.le_refl _))
  clear f15
  obtain ⟨n16, f16⟩ := F.e16
  have H16 := Aside0.mk (f16 n16 (Nat.le_refl _))
  clear f16
  obtain ⟨n17, f17⟩ := F.e17
  have H17 := Aside0.mk (f17 n17 (Nat.le_refl _))
  clear f17
  obtain ⟨n18, f18⟩ := F.e18
  have H18 := Aside0.mk (f18 n18 (Nat.le_refl _))
  clear f18
  obtain ⟨n19, f19⟩ := F.e19
  have H19 := Aside0.mk (f19 n19 (Nat.le_refl _))
  clear f19
  obtain ⟨n20, f20⟩ := F.e20
  have H20 := Aside0.mk (f20 n20 (Nat.le_refl _))
  clear f20
  obtain ⟨n21, f21⟩ := F.e21
  have H21 := Aside0.mk (f21 n21 (Nat.le_refl _))
  clear f21
  obtain ⟨n22, f22⟩ := F.e22
  have H22 := Aside0.mk (f22 n22 (Nat.le_refl _))
  clear f22
  obtain ⟨n23, f23⟩ := F.e23
  have H23 := Aside0.mk (f23 n23 (Nat.le_refl _))
  clear f23
  obtain ⟨n24, f24⟩ := F.e24
  have H24 := Aside0.mk (f24 n24 (Nat.le_refl _))
  clear f24
  obtain ⟨n25, f25⟩ := F.e25
  have H25 := Aside0.mk (f25 n25 (Nat.le_refl _))
  clear f25
  obtain ⟨n26, f26⟩ := F.e26
  have H26 := Aside0.mk (f26 n26 (Nat.le_refl _))
  clear f26
  obtain ⟨n27, f27⟩ := F.e27
  have H27 := Aside0.mk (f27 n27 (Nat.le_refl _))
  clear f27
  obtain ⟨n28, f28⟩ := F.e28
  have H28 := Aside0.mk (f28 n28 (Nat.le_refl _))
  clear f28
  obtain ⟨n29, f29⟩ := F.e29
  have H29 := Aside0.mk (f29 n29 (Nat.le_refl _))
  clear f29
  obtain ⟨n30, f30⟩ := F.e30
  have H30 := Aside0.mk (f30 n30 (Nat.le_refl _))
  clear f30
  have hseven := Aside0.mk F.hseven
  have height := Aside0.mk F.height
  have hok := Aside0.mk F.hok
  clear hr0 hc0 HBG F
  go_enter Try.func9, Try.ntmps9
  go_wp2_with (fail)
  refine (laws_rBig.calls A0 c0 l0 false _ HVc.out HC0.out H1.out).mono ?_
  rintro e_ w1 ⟨rfl, hb1⟩
  replace hb1 := hb1.below
  replace HVc := Aside0.mk (Kd.C_below HVc.out hb1)
  replace HB := Aside0.mk (below_step HB.out hb1)
  clear hb1
  go_wp2_with (fail)
  refine (spec_DrawInverseOrder.calls n2 A0 c0 l0 o _ HVc.out HC0.out H2.out).mono ?_
  rintro e_ w2 ⟨v0_2, rfl, hv0_2, hb2⟩
  obtain ⟨Ao, co, rfl, gv0_2⟩ := led_R hv0_2
  have HVo := Aside0.mk gv0_2
  clear gv0_2 hv0_2
  replace HVc := Aside0.mk (Kd.C_below HVc.out hb2)
  replace HB := Aside0.mk (below_step HB.out hb2)
  clear hb2
  go_wp2_with (fail)
  refine (impl_InverseOrder.calls n3 Ao co o inv ok _ (Kd.V_reads' HVo.out).2.2 (Kd.V_reads' HVo.out).2.1 H3.out).mono ?_
  rintro e_ w3 ⟨v0_3, rfl, hv0_3, hb3⟩
  obtain ⟨Ai1, ci1, rfl, gv0_3⟩ := led_R hv0_3
  have HVi1 := Aside0.mk gv0_3
  clear gv0_3 hv0_3
  replace HVc := Aside0.mk (Kd.C_below HVc.out hb3)
  replace HVo := Aside0.mk (Kd.V_below HVo.out hb3)
  replace HB := Aside0.mk (below_step HB.out hb3)
  clear hb3
  go_wp2_with (fail)
  refine (spec_InverseOrder.calls n4 Ao co o inv ok _ (Kd.V_reads' HVo.out).2.2 (Kd.V_reads' HVo.out).2.1 H4.out).mono ?_
  rintro e_ w4 ⟨v0_4, rfl, hv0_4, hb4⟩
  obtain ⟨Ai2, ci2, rfl, gv0_4⟩ := led_R hv0_4
  have HVi2 := Aside0.mk gv0_4
  clear gv0_4 hv0_4
  replace HVc := Aside0.mk (Kd.C_below HVc.out hb4)
  replace HVo := Aside0.mk (Kd.V_below HVo.out hb4)
  replace HVi1 := Aside0.mk (Kd.V_below HVi1.out hb4)
  replace HB := Aside0.mk (below_step HB.out hb4)
  clear hb4
  go_wp2_with (fail)
  refine (impl_IsOrder.calls n5 Ao co o ok _ (Kd.V_reads' HVo.out).2.2 (Kd.V_reads' HVo.out).2.1 H5.out).mono ?_
  rintro e_ w5 ⟨rfl, hb5⟩
  replace hb5 := hb5.below
  replace HVc := Aside0.mk (Kd.C_below HVc.out hb5)
  replace HVo := Aside0.mk (Kd.V_below HVo.out hb5)
  replace HVi1 := Aside0.mk (Kd.V_below HVi1.out hb5)
  replace HVi2 := Aside0.mk (Kd.V_below HVi2.out hb5)
  replace HB := Aside0.mk (below_step HB.out hb5)
  clear hb5
  go_wp2_with (fail)
  refine (laws_rInts.calls n6 Ai1 ci1 inv Ai2 ci2 inv true _ (Kd.V_reads' HVi1.out).2.2 (Kd.V_reads' HVi1.out).2.1 (Kd.V_reads' HVi2.out).2.2 (Kd.V_reads' HVi2.out).2.1 H6.out).mono ?_
  rintro e_ w6 ⟨rfl, hb6⟩
  replace hb6 := hb6.below
  replace HVc := Aside0.mk (Kd.C_below HVc.out hb6)
  replace HVo := Aside0.mk (Kd.V_below HVo.out hb6)
  replace HVi1 := Aside0.mk (Kd.V_below HVi1.out hb6)
  replace HVi2 := Aside0.mk (Kd.V_below HVi2.out hb6)
  replace HB := Aside0.mk (below_step HB.out hb6)
  clear hb6
  clear HVi2
  go_wp2_with (fail)
  refine (impl_BackOrder.calls n7 Ao co o back ok _ (Kd.V_reads' HVo.out).2.2 (Kd.V_reads' HVo.out).2.1 H7.out).mono ?_
  rintro e_ w7 ⟨v0_7, rfl, hv0_7, hb7⟩
  obtain ⟨Ab1, cb1, rfl, gv0_7⟩ := led_R hv0_7
  have HVb1 := Aside0.mk gv0_7
  clear gv0_7 hv0_7
  replace HVc := Aside0.mk (Kd.C_below HVc.out hb7)
  replace HVo := Aside0.mk (Kd.V_below HVo.out hb7)
  replace HVi1 := Aside0.mk (Kd.V_below HVi1.out hb7)
  replace HB := Aside0.mk (below_step HB.out hb7)
  clear hb7
  go_wp2_with (fail)
  refine (spec_BackOrder.calls n8 Ao co o back ok _ (Kd.V_reads' HVo.out).2.2 (Kd.V_reads' HVo.out).2.1 H8.out).mono ?_
  rintro e_ w8 ⟨v0_8, rfl, hv0_8, hb8⟩
  obtain ⟨Ab2, cb2, rfl, gv0_8⟩ := led_R hv0_8
  have HVb2 := Aside0.mk gv0_8
  clear gv0_8 hv0_8
  replace HVc := Aside0.mk (Kd.C_below HVc.out hb8)
  replace HVo := Aside0.mk (Kd.V_below HVo.out hb8)
  replace HVi1 := Aside0.mk (Kd.V_below HVi1.out hb8)
  replace HVb1 := Aside0.mk (Kd.V_below HVb1.out hb8)
  replace HB := Aside0.mk (below_step HB.out hb8)
  clear hb8
  go_wp2_with (fail)
  refine (laws_rInts.calls n9 Ab1 cb1 back Ab2 cb2 back true _ (Kd.V_reads' HVb1.out).2.2 (Kd.V_reads' HVb1.out).2.1 (Kd.V_reads' HVb2.out).2.2 (Kd.V_reads' HVb2.out).2.1 H9.out).mono ?_
  rintro e_ w9 ⟨rfl, hb9⟩
  replace hb9 := hb9.below
  replace HVc := Aside0.mk (Kd.C_below HVc.out hb9)
  replace HVo := Aside0.mk (Kd.V_below HVo.out hb9)
  replace HVi1 := Aside0.mk (Kd.V_below HVi1.out hb9)
  replace HVb1 := Aside0.mk (Kd.V_below HVb1.out hb9)
  replace HVb2 := Aside0.mk (Kd.V_below HVb2.out hb9)
  replace HB := Aside0.mk (below_step HB.out hb9)
  clear hb9
  clear HVb2
  go_wp2_with (fail)
  refine (impl_OtherOrder.calls n10 Ao co o oth ok _ (Kd.V_reads' HVo.out).2.2 (Kd.V_reads' HVo.out).2.1 H10.out).mono ?_
  rintro e_ w10 ⟨v0_10, rfl, hv0_10, hb10⟩
  obtain ⟨At1, ct1, rfl, gv0_10⟩ := led_R hv0_10
  have HVt1 := Aside0.mk gv0_10
  clear gv0_10 hv0_10
  replace HVc := Aside0.mk (Kd.C_below HVc.out hb10)
  replace HVo := Aside0.mk (Kd.V_below HVo.out hb10)
  replace HVi1 := Aside0.mk (Kd.V_below HVi1.out hb10)
  replace HVb1 := Aside0.mk (Kd.V_below HVb1.out hb10)
  replace HB := Aside0.mk (below_step HB.out hb10)
  clear hb10
  go_wp2_with (fail)
  refine (spec_OtherOrder.calls n11 Ao co o oth ok _ (Kd.V_reads' HVo.out).2.2 (Kd.V_reads' HVo.out).2.1 H11.out).mono ?_
  rintro e_ w11 ⟨v0_11, rfl, hv0_11, hb11⟩
  obtain ⟨At2, ct2, rfl, gv0_11⟩ := led_R hv0_11
  have HVt2 := Aside0.mk gv0_11
  clear gv0_11 hv0_11
  replace HVc := Aside0.mk (Kd.C_below HVc.out hb11)
  replace HVo := Aside0.mk (Kd.V_below HVo.out hb11)
  replace HVi1 := Aside0.mk (Kd.V_below HVi1.out hb11)
  replace HVb1 := Aside0.mk (Kd.V_below HVb1.out hb11)
  replace HVt1 := Aside0.mk (Kd.V_below HVt1.out hb11)
  replace HB := Aside0.mk (below_step HB.out hb11)
  clear hb11
  go_wp2_with (fail)
  refine (laws_rInts.calls n12 At1 ct1 oth At2 ct2 oth true _ (Kd.V_reads' HVt1.out).2.2 (Kd.V_reads' HVt1.out).2.1 (Kd.V_reads' HVt2.out).2.2 (Kd.V_reads' HVt2.out).2.1 H12.out).mono ?_
  rintro e_ w12 ⟨rfl, hb12⟩
  replace hb12 := hb12.below
  replace HVc := Aside0.mk (Kd.C_below HVc.out hb12)
  replace HVo := Aside0.mk (Kd.V_below HVo.out hb12)
  replace HVi1 := Aside0.mk (Kd.V_below HVi1.out hb12)
  replace HVb1 := Aside0.mk (Kd.V_below HVb1.out hb12)
  replace HVt1 := Aside0.mk (Kd.V_below HVt1.out hb12)
  replace HVt2 := Aside0.mk (Kd.V_below HVt2.out hb12)
  replace HB := Aside0.mk (below_step HB.out hb12)
  clear hb12
  clear HVt2
  go_wp2_with (fail)
  refine (impl_RankOfOrder.calls n13 Ao co o rank ok _ (Kd.V_reads' HVo.out).2.2 (Kd.V_reads' HVo.out).2.1 H13.out).mono ?_
  rintro e_ w13 ⟨rfl, hb13⟩
  replace HVc := Aside0.mk (Kd.C_below HVc.out hb13)
  replace HVo := Aside0.mk (Kd.V_below HVo.out hb13)
  replace HVi1 := Aside0.mk (Kd.V_below HVi1.out hb13)
  replace HVb1 := Aside0.mk (Kd.V_below HVb1.out hb13)
  replace HVt1 := Aside0.mk (Kd.V_below HVt1.out hb13)
  replace HB := Aside0.mk (below_step HB.out hb13)
  clear hb13
  go_wp2_with (fail)
  refine (spec_RankOfOrder.calls n14 Ao co o rank ok _ (Kd.V_reads' HVo.out).2.2 (Kd.V_reads' HVo.out).2.1 H14.out).mono ?_
  rintro e_ w14 ⟨rfl, hb14⟩
  replace hb14 := hb14.below
  replace HVc := Aside0.mk (Kd.C_below HVc.out hb14)
  replace HVo := Aside0.mk (Kd.V_below HVo.out hb14)
  replace HVi1 := Aside0.mk (Kd.V_below HVi1.out hb14)
  replace HVb1 := Aside0.mk (Kd.V_below HVb1.out hb14)
  replace HVt1 := Aside0.mk (Kd.V_below HVt1.out hb14)
  replace HB := Aside0.mk (below_step HB.out hb14)
  clear hb14
  go_wp2_with (fail)
  refine (impl_CountInversions.calls n15 Ao co o many ok _ (Kd.V_reads' HVo.out).2.2 (Kd.V_reads' HVo.out).2.1 H15.out).mono ?_
  rintro e_ w15 ⟨rfl, hb15⟩
  replace hb15 := hb15.below
  replace HVc := Aside0.mk (Kd.C_below HVc.out hb15)
  replace HVo := Aside0.mk (Kd.V_below HVo.out hb15)
  replace HVi1 := Aside0.mk (Kd.V_below HVi1.out hb15)
  replace HVb1 := Aside0.mk (Kd.V_below HVb1.out hb15)
  replace HVt1 := Aside0.mk (Kd.V_below HVt1.out hb15)
  replace HB := Aside0.mk (below_step HB.out hb15)
  clear hb15
  go_wp2_with (fail)
  refine (spec_CountInversions.calls n16 Ao co o many ok _ (Kd.V_reads' HVo.out).2.2 (Kd.V_reads' HVo.out).2.1 H16.out).mono ?_
  rintro e_ w16 ⟨rfl, hb16⟩
  replace hb16 := hb16.below
  replace HVc := Aside0.mk (Kd.C_below HVc.out hb16)
  replace HVo := Aside0.mk (Kd.V_below HVo.out hb16)
  replace HVi1 := Aside0.mk (Kd.V_below HVi1.out hb16)
  replace HVb1 := Aside0.mk (Kd.V_below HVb1.out hb16)
  replace HVt1 := Aside0.mk (Kd.V_below HVt1.out hb16)
  replace HB := Aside0.mk (below_step HB.out hb16)
  clear hb16
  go_wp2_with (fail)
  refine (impl_OrderText.calls n17 Ao co o text ok _ (Kd.V_reads' HVo.out).2.2 (Kd.V_reads' HVo.out).2.1 H17.out).mono ?_
  rintro e_ w17 ⟨rfl, hb17⟩
  replace HVc := Aside0.mk (Kd.C_below HVc.out hb17)
  replace HVo := Aside0.mk (Kd.V_below HVo.out hb17)
  replace HVi1 := Aside0.mk (Kd.V_below HVi1.out hb17)
  replace HVb1 := Aside0.mk (Kd.V_below HVb1.out hb17)
  replace HVt1 := Aside0.mk (Kd.V_below HVt1.out hb17)
  replace HB := Aside0.mk (below_step HB.out hb17)
  clear hb17
  go_wp2_with (fail)
  refine (spec_OrderText.calls n18 Ao co o text ok _ (Kd.V_reads' HVo.out).2.2 (Kd.V_reads' HVo.out).2.1 H18.out).mono ?_
  rintro e_ w18 ⟨rfl, hb18⟩
  replace HVc := Aside0.mk (Kd.C_below HVc.out hb18)
  replace HVo := Aside0.mk (Kd.V_below HVo.out hb18)
  replace HVi1 := Aside0.mk (Kd.V_below HVi1.out hb18)
  replace HVb1 := Aside0.mk (Kd.V_below HVb1.out hb18)
  replace HVt1 := Aside0.mk (Kd.V_below HVt1.out hb18)
  replace HB := Aside0.mk (below_step HB.out hb18)
  clear hb18
  go_wp2_with (fail)
  refine (spec_DrawComposeOrders.calls n19 A0 c0 l0 a b _ HVc.out HC0.out H19.out).mono ?_
  rintro e_ w19 ⟨v0_19, v1_19, rfl, hv0_19, hv1_19, hb19⟩
  obtain ⟨Aa, ca, rfl, gv0_19⟩ := led_R hv0_19
  have HVa := Aside0.mk gv0_19
  clear gv0_19 hv0_19
  obtain ⟨Ab, cb, rfl, gv1_19⟩ := led_R hv1_19
  have HVb := Aside0.mk gv1_19
  clear gv1_19 hv1_19
  replace HVc := Aside0.mk (Kd.C_below HVc.out hb19)
  replace HVo := Aside0.mk (Kd.V_below HVo.out hb19)
  replace HVi1 := Aside0.mk (Kd.V_below HVi1.out hb19)
  replace HVb1 := Aside0.mk (Kd.V_below HVb1.out hb19)
  replace HVt1 := Aside0.mk (Kd.V_below HVt1.out hb19)
  replace HB := Aside0.mk (below_step HB.out hb19)
  clear hb19
  go_wp2_with (fail)
  refine (impl_ComposeOrders.calls n20 Aa ca a Ab cb b made six _ (Kd.V_reads' HVa.out).2.2 (Kd.V_reads' HVa.out).2.1 (Kd.V_reads' HVb.out).2.2 (Kd.V_reads' HVb.out).2.1 H20.out).mono ?_
  rintro e_ w20 ⟨v0_20, rfl, hv0_20, hb20⟩
  obtain ⟨Am1, cm1, rfl, gv0_20⟩ := led_R hv0_20
  have HVm1 := Aside0.mk gv0_20
  clear gv0_20 hv0_20
  replace HVc := Aside0.mk (Kd.C_below HVc.out hb20)
  replace HVo := Aside0.mk (Kd.V_below HVo.out hb20)
  replace HVi1 := Aside0.mk (Kd.V_below HVi1.out hb20)
  replace HVb1 := Aside0.mk (Kd.V_below HVb1.out hb20)
  replace HVt1 := Aside0.mk (Kd.V_below HVt1.out hb20)
  replace HVa := Aside0.mk (Kd.V_below HVa.out hb20)
  replace HVb := Aside0.mk (Kd.V_below HVb.out hb20)
  replace HB := Aside0.mk (below_step HB.out hb20)
  clear hb20
  go_wp2_with (fail)
  refine (spec_ComposeOrders.calls n21 Aa ca a Ab cb b made six _ (Kd.V_reads' HVa.out).2.2 (Kd.V_reads' HVa.out).2.1 (Kd.V_reads' HVb.out).2.2 (Kd.V_reads' HVb.out).2.1 H21.out).mono ?_
  rintro e_ w21 ⟨v0_21, rfl, hv0_21, hb21⟩
  obtain ⟨Am2, cm2, rfl, gv0_21⟩ := led_R hv0_21
  have HVm2 := Aside0.mk gv0_21
  clear gv0_21 hv0_21
  replace HVc := Aside0.mk (Kd.C_below HVc.out hb21)
  replace HVo := Aside0.mk (Kd.V_below HVo.out hb21)
  replace HVi1 := Aside0.mk (Kd.V_below HVi1.out hb21)
  replace HVb1 := Aside0.mk (Kd.V_below HVb1.out hb21)
  replace HVt1 := Aside0.mk (Kd.V_below HVt1.out hb21)
  replace HVa := Aside0.mk (Kd.V_below HVa.out hb21)
  replace HVb := Aside0.mk (Kd.V_below HVb.out hb21)
  replace HVm1 := Aside0.mk (Kd.V_below HVm1.out hb21)
  replace HB := Aside0.mk (below_step HB.out hb21)
  clear hb21
  go_wp2_with (fail)
  refine (laws_rInts.calls n22 Am1 cm1 made Am2 cm2 made true _ (Kd.V_reads' HVm1.out).2.2 (Kd.V_reads' HVm1.out).2.1 (Kd.V_reads' HVm2.out).2.2 (Kd.V_reads' HVm2.out).2.1 H22.out).mono ?_
  rintro e_ w22 ⟨rfl, hb22⟩
  replace hb22 := hb22.below
  replace HVc := Aside0.mk (Kd.C_below HVc.out hb22)
  replace HVo := Aside0.mk (Kd.V_below HVo.out hb22)
  replace HVi1 := Aside0.mk (Kd.V_below HVi1.out hb22)
  replace HVb1 := Aside0.mk (Kd.V_below HVb1.out hb22)
  replace HVt1 := Aside0.mk (Kd.V_below HVt1.out hb22)
  replace HVa := Aside0.mk (Kd.V_below HVa.out hb22)
  replace HVb := Aside0.mk (Kd.V_below HVb.out hb22)
  replace HVm1 := Aside0.mk (Kd.V_below HVm1.out hb22)
  replace HVm2 := Aside0.mk (Kd.V_below HVm2.out hb22)
  replace HB := Aside0.mk (below_step HB.out hb22)
  clear hb22
  clear HVm1
  clear HVm2
  clear HVa
  clear HVb
  go_wp2_with (fail)
  refine (spec_DrawOrderAt.calls n23 A0 c0 l0 n k_ _ HVc.out HC0.out H23.out).mono ?_
  rintro e_ w23 ⟨rfl, hb23⟩
  replace HVc := Aside0.mk (Kd.C_below HVc.out hb23)
  replace HVo := Aside0.mk (Kd.V_below HVo.out hb23)
  replace HVi1 := Aside0.mk (Kd.V_below HVi1.out hb23)
  replace HVb1 := Aside0.mk (Kd.V_below HVb1.out hb23)
  replace HVt1 := Aside0.mk (Kd.V_below HVt1.out hb23)
  replace HB := Aside0.mk (below_step HB.out hb23)
  clear hb23
  go_wp2_with (fail)
  refine (impl_OrderAt.calls n24 n k_ at_ seven _ H24.out).mono ?_
  rintro e_ w24 ⟨v0_24, rfl, hv0_24, hb24⟩
  obtain ⟨Aa1, ca1, rfl, gv0_24⟩ := led_R hv0_24
  have HVa1 := Aside0.mk gv0_24
  clear gv0_24 hv0_24
  replace HVc := Aside0.mk (Kd.C_below HVc.out hb24)
  replace HVo := Aside0.mk (Kd.V_below HVo.out hb24)
  replace HVi1 := Aside0.mk (Kd.V_below HVi1.out hb24)
  replace HVb1 := Aside0.mk (Kd.V_below HVb1.out hb24)
  replace HVt1 := Aside0.mk (Kd.V_below HVt1.out hb24)
  replace HB := Aside0.mk (below_step HB.out hb24)
  clear hb24
  go_wp2_with (fail)
  refine (spec_OrderAt.calls n25 n k_ at_ seven _ H25.out).mono ?_
  rintro e_ w25 ⟨v0_25, rfl, hv0_25, hb25⟩
  obtain ⟨Aa2, ca2, rfl, gv0_25⟩ := led_R hv0_25
  have HVa2 := Aside0.mk gv0_25
  clear gv0_25 hv0_25
  replace HVc := Aside0.mk (Kd.C_below HVc.out hb25)
  replace HVo := Aside0.mk (Kd.V_below HVo.out hb25)
  replace HVi1 := Aside0.mk (Kd.V_below HVi1.out hb25)
  replace HVb1 := Aside0.mk (Kd.V_below HVb1.out hb25)
  replace HVt1 := Aside0.mk (Kd.V_below HVt1.out hb25)
  replace HVa1 := Aside0.mk (Kd.V_below HVa1.out hb25)
  replace HB := Aside0.mk (below_step HB.out hb25)
  clear hb25
  go_wp2_with (fail)
  refine (laws_rInts.calls n26 Aa1 ca1 at_ Aa2 ca2 at_ true _ (Kd.V_reads' HVa1.out).2.2 (Kd.V_reads' HVa1.out).2.1 (Kd.V_reads' HVa2.out).2.2 (Kd.V_reads' HVa2.out).2.1 H26.out).mono ?_
  rintro e_ w26 ⟨rfl, hb26⟩
  replace hb26 := hb26.below
  replace HVc := Aside0.mk (Kd.C_below HVc.out hb26)
  replace HVo := Aside0.mk (Kd.V_below HVo.out hb26)
  replace HVi1 := Aside0.mk (Kd.V_below HVi1.out hb26)
  replace HVb1 := Aside0.mk (Kd.V_below HVb1.out hb26)
  replace HVt1 := Aside0.mk (Kd.V_below HVt1.out hb26)
  replace HVa1 := Aside0.mk (Kd.V_below HVa1.out hb26)
  replace HVa2 := Aside0.mk (Kd.V_below HVa2.out hb26)
  replace HB := Aside0.mk (below_step HB.out hb26)
  clear hb26
  clear HVa2
  go_wp2_with (fail)
  refine (spec_DrawParseOrder.calls n27 A0 c0 l0 s _ HVc.out HC0.out H27.out).mono ?_
  rintro e_ w27 ⟨rfl, hb27⟩
  replace HVc := Aside0.mk (Kd.C_below HVc.out hb27)
  replace HVo := Aside0.mk (Kd.V_below HVo.out hb27)
  replace HVi1 := Aside0.mk (Kd.V_below HVi1.out hb27)
  replace HVb1 := Aside0.mk (Kd.V_below HVb1.out hb27)
  replace HVt1 := Aside0.mk (Kd.V_below HVt1.out hb27)
  replace HVa1 := Aside0.mk (Kd.V_below HVa1.out hb27)
  replace HB := Aside0.mk (below_step HB.out hb27)
  clear hb27
  clear HVc
  go_wp2_with (fail)
  refine (impl_ParseOrder.calls n28 s read eight _ H28.out).mono ?_
  rintro e_ w28 ⟨v0_28, rfl, hv0_28, hb28⟩
  obtain ⟨Ar1, cr1, rfl, gv0_28⟩ := led_R hv0_28
  have HVr1 := Aside0.mk gv0_28
  clear gv0_28 hv0_28
  replace HVo := Aside0.mk (Kd.V_below HVo.out hb28)
  replace HVi1 := Aside0.mk (Kd.V_below HVi1.out hb28)
  replace HVb1 := Aside0.mk (Kd.V_below HVb1.out hb28)
  replace HVt1 := Aside0.mk (Kd.V_below HVt1.out hb28)
  replace HVa1 := Aside0.mk (Kd.V_below HVa1.out hb28)
  replace HB := Aside0.mk (below_step HB.out hb28)
  clear hb28
  go_wp2_with (fail)
  refine (spec_ParseOrder.calls n29 s read eight _ H29.out).mono ?_
  rintro e_ w29 ⟨v0_29, rfl, hv0_29, hb29⟩
  obtain ⟨Ar2, cr2, rfl, gv0_29⟩ := led_R hv0_29
  have HVr2 := Aside0.mk gv0_29
  clear gv0_29 hv0_29
  replace HVo := Aside0.mk (Kd.V_below HVo.out hb29)
  replace HVi1 := Aside0.mk (Kd.V_below HVi1.out hb29)
  replace HVb1 := Aside0.mk (Kd.V_below HVb1.out hb29)
  replace HVt1 := Aside0.mk (Kd.V_below HVt1.out hb29)
  replace HVa1 := Aside0.mk (Kd.V_below HVa1.out hb29)
  replace HVr1 := Aside0.mk (Kd.V_below HVr1.out hb29)
  replace HB := Aside0.mk (below_step HB.out hb29)
  clear hb29
  go_wp2_with (fail)
  refine (laws_rInts.calls n30 Ar1 cr1 read Ar2 cr2 read true _ (Kd.V_reads' HVr1.out).2.2 (Kd.V_reads' HVr1.out).2.1 (Kd.V_reads' HVr2.out).2.2 (Kd.V_reads' HVr2.out).2.1 H30.out).mono ?_
  rintro e_ w30 ⟨rfl, hb30⟩
  replace hb30 := hb30.below
  replace HVo := Aside0.mk (Kd.V_below HVo.out hb30)
  replace HVi1 := Aside0.mk (Kd.V_below HVi1.out hb30)
  replace HVb1 := Aside0.mk (Kd.V_below HVb1.out hb30)
  replace HVt1 := Aside0.mk (Kd.V_below HVt1.out hb30)
  replace HVa1 := Aside0.mk (Kd.V_below HVa1.out hb30)
  replace HVr1 := Aside0.mk (Kd.V_below HVr1.out hb30)
  replace HVr2 := Aside0.mk (Kd.V_below HVr2.out hb30)
  replace HB := Aside0.mk (below_step HB.out hb30)
  clear hb30
  clear HVr2
  cases seven with
  | false =>
    clear hseven
    cases eight with
    | false =>
      clear height
      cases ok with
      | false =>
        go_wp2_with (fail)
        go_ret
        exact ⟨rfl, HB.out⟩
      | true =>
        obtain ⟨x1, x2, x3, x4, x5, x6, x7, x8, x9⟩ := hok.out rfl
        obtain ⟨k1, fk1⟩ := x1
        have X1 := Aside0.mk (fk1 k1 (Nat.le_refl _))
        clear fk1
        obtain ⟨k2, fk2⟩ := x2
        have X2 := Aside0.mk (fk2 k2 (Nat.le_refl _))
        clear fk2
        obtain ⟨k3, fk3⟩ := x3
        have X3 := Aside0.mk (fk3 k3 (Nat.le_refl _))
        clear fk3
        obtain ⟨k4, fk4⟩ := x4
        have X4 := Aside0.mk (fk4 k4 (Nat.le_refl _))
        clear fk4
        obtain ⟨k5, fk5⟩ := x5
        have X5 := Aside0.mk (fk5 k5 (Nat.le_refl _))
        clear fk5
        obtain ⟨k6, fk6⟩ := x6
        have X6 := Aside0.mk (fk6 k6 (Nat.le_refl _))
        clear fk6
        obtain ⟨k7, fk7⟩ := x7
        have X7 := Aside0.mk (fk7 k7 (Nat.le_refl _))
        clear fk7
        obtain ⟨k8, fk8⟩ := x8
        have X8 := Aside0.mk (fk8 k8 (Nat.le_refl _))
        clear fk8
        have X9 := Aside0.mk x9
        clear x9 hok
        go_wp2_with (fail)
        refine (impl_InverseOrder.calls k1 Ai1 ci1 inv o true _ (Kd.V_reads' HVi1.out).2.2 (Kd.V_reads' HVi1.out).2.1 X1.out).mono ?_
        rintro e_ w31 ⟨v0_31, rfl, hv0_31, hb31⟩
        obtain ⟨Ay1, cy1, rfl, gv0_31⟩ := led_R hv0_31
        have HVy1 := Aside0.mk gv0_31
        clear gv0_31 hv0_31
        replace HVo := Aside0.mk (Kd.V_below HVo.out hb31)
        replace HVi1 := Aside0.mk (Kd.V_below HVi1.out hb31)
        replace HVb1 := Aside0.mk (Kd.V_below HVb1.out hb31)
        replace HVt1 := Aside0.mk (Kd.V_below HVt1.out hb31)
        replace HVa1 := Aside0.mk (Kd.V_below HVa1.out hb31)
        replace HVr1 := Aside0.mk (Kd.V_below HVr1.out hb31)
        replace HB := Aside0.mk (below_step HB.out hb31)
        clear hb31
        go_wp2_with (fail)
        refine (impl_ComposeOrders.calls k2 Ao co o Ai1 ci1 inv pl true _ (Kd.V_reads' HVo.out).2.2 (Kd.V_reads' HVo.out).2.1 (Kd.V_reads' HVi1.out).2.2 (Kd.V_reads' HVi1.out).2.1 X2.out).mono ?_
        rintro e_ w32 ⟨v0_32, rfl, hv0_32, hb32⟩
        obtain ⟨Ay2, cy2, rfl, gv0_32⟩ := led_R hv0_32
        have HVy2 := Aside0.mk gv0_32
        clear gv0_32 hv0_32
        replace HVo := Aside0.mk (Kd.V_below HVo.out hb32)
        replace HVi1 := Aside0.mk (Kd.V_below HVi1.out hb32)
        replace HVb1 := Aside0.mk (Kd.V_below HVb1.out hb32)
        replace HVt1 := Aside0.mk (Kd.V_below HVt1.out hb32)
        replace HVa1 := Aside0.mk (Kd.V_below HVa1.out hb32)
        replace HVr1 := Aside0.mk (Kd.V_below HVr1.out hb32)
        replace HVy1 := Aside0.mk (Kd.V_below HVy1.out hb32)
        replace HB := Aside0.mk (below_step HB.out hb32)
        clear hb32
        go_wp2_with (fail)
        refine (impl_BackOrder.calls k3 Ab1 cb1 back o true _ (Kd.V_reads' HVb1.out).2.2 (Kd.V_reads' HVb1.out).2.1 X3.out).mono ?_
        rintro e_ w33 ⟨v0_33, rfl, hv0_33, hb33⟩
        obtain ⟨Ay3, cy3, rfl, gv0_33⟩ := led_R hv0_33
        have HVy3 := Aside0.mk gv0_33
        clear gv0_33 hv0_33
        replace HVo := Aside0.mk (Kd.V_below HVo.out hb33)
        replace HVi1 := Aside0.mk (Kd.V_below HVi1.out hb33)
        replace HVb1 := Aside0.mk (Kd.V_below HVb1.out hb33)
        replace HVt1 := Aside0.mk (Kd.V_below HVt1.out hb33)
        replace HVa1 := Aside0.mk (Kd.V_below HVa1.out hb33)
        replace HVr1 := Aside0.mk (Kd.V_below HVr1.out hb33)
        replace HVy1 := Aside0.mk (Kd.V_below HVy1.out hb33)
        replace HVy2 := Aside0.mk (Kd.V_below HVy2.out hb33)
        replace HB := Aside0.mk (below_step HB.out hb33)
        clear hb33
        go_wp2_with (fail)
        refine (impl_OtherOrder.calls k4 At1 ct1 oth o true _ (Kd.V_reads' HVt1.out).2.2 (Kd.V_reads' HVt1.out).2.1 X4.out).mono ?_
        rintro e_ w34 ⟨v0_34, rfl, hv0_34, hb34⟩
        obtain ⟨Ay4, cy4, rfl, gv0_34⟩ := led_R hv0_34
        have HVy4 := Aside0.mk gv0_34
        clear gv0_34 hv0_34
        replace HVo := Aside0.mk (Kd.V_below HVo.out hb34)
        replace HVi1 := Aside0.mk (Kd.V_below HVi1.out hb34)
        replace HVb1 := Aside0.mk (Kd.V_below HVb1.out hb34)
        replace HVt1 := Aside0.mk (Kd.V_below HVt1.out hb34)
        replace HVa1 := Aside0.mk (Kd.V_below HVa1.out hb34)
        replace HVr1 := Aside0.mk (Kd.V_below HVr1.out hb34)
        replace HVy1 := Aside0.mk (Kd.V_below HVy1.out hb34)
        replace HVy2 := Aside0.mk (Kd.V_below HVy2.out hb34)
        replace HVy3 := Aside0.mk (Kd.V_below HVy3.out hb34)
        replace HB := Aside0.mk (below_step HB.out hb34)
        clear hb34
        go_wp2_with (fail)
        refine (impl_CountInversions.calls k5 Ab1 cb1 back few true _ (Kd.V_reads' HVb1.out).2.2 (Kd.V_reads' HVb1.out).2.1 X5.out).mono ?_
        rintro e_ w35 ⟨rfl, hb35⟩
        replace hb35 := hb35.below
        replace HVo := Aside0.mk (Kd.V_below HVo.out hb35)
        replace HVi1 := Aside0.mk (Kd.V_below HVi1.out hb35)
        replace HVb1 := Aside0.mk (Kd.V_below HVb1.out hb35)
        replace HVt1 := Aside0.mk (Kd.V_below HVt1.out hb35)
        replace HVa1 := Aside0.mk (Kd.V_below HVa1.out hb35)
        replace HVr1 := Aside0.mk (Kd.V_below HVr1.out hb35)
        replace HVy1 := Aside0.mk (Kd.V_below HVy1.out hb35)
        replace HVy2 := Aside0.mk (Kd.V_below HVy2.out hb35)
        replace HVy3 := Aside0.mk (Kd.V_below HVy3.out hb35)
        replace HVy4 := Aside0.mk (Kd.V_below HVy4.out hb35)
        replace HB := Aside0.mk (below_step HB.out hb35)
        clear hb35
        go_wp2_with (fail)
        refine (impl_OrderAt.calls k6 ((o.length : Int)) rank o true _ X6.out).mono ?_
        rintro e_ w36 ⟨v0_36, rfl, hv0_36, hb36⟩
        obtain ⟨Ay6, cy6, rfl, gv0_36⟩ := led_R hv0_36
        have HVy6 := Aside0.mk gv0_36
        clear gv0_36 hv0_36
        replace HVo := Aside0.mk (Kd.V_below HVo.out hb36)
        replace HVi1 := Aside0.mk (Kd.V_below HVi1.out hb36)
        replace HVb1 := Aside0.mk (Kd.V_below HVb1.out hb36)
        replace HVt1 := Aside0.mk (Kd.V_below HVt1.out hb36)
        replace HVa1 := Aside0.mk (Kd.V_below HVa1.out hb36)
        replace HVr1 := Aside0.mk (Kd.V_below HVr1.out hb36)
        replace HVy1 := Aside0.mk (Kd.V_below HVy1.out hb36)
        replace HVy2 := Aside0.mk (Kd.V_below HVy2.out hb36)
        replace HVy3 := Aside0.mk (Kd.V_below HVy3.out hb36)
        replace HVy4 := Aside0.mk (Kd.V_below HVy4.out hb36)
        replace HB := Aside0.mk (below_step HB.out hb36)
        clear hb36
        go_wp2_with (fail)
        refine (laws_rInts.calls k7 Ay1 cy1 o Ao co o true _ (Kd.V_reads' HVy1.out).2.2 (Kd.V_reads' HVy1.out).2.1 (Kd.V_reads' HVo.out).2.2 (Kd.V_reads' HVo.out).2.1 X7.out).mono ?_
        rintro e_ w37 ⟨rfl, hb37⟩
        replace hb37 := hb37.below
        replace HVo := Aside0.mk (Kd.V_below HVo.out hb37)
        replace HVi1 := Aside0.mk (Kd.V_below HVi1.out hb37)
        replace HVb1 := Aside0.mk (Kd.V_below HVb1.out hb37)
        replace HVt1 := Aside0.mk (Kd.V_below HVt1.out hb37)
        replace HVa1 := Aside0.mk (Kd.V_below HVa1.out hb37)
        replace HVr1 := Aside0.mk (Kd.V_below HVr1.out hb37)
        replace HVy1 := Aside0.mk (Kd.V_below HVy1.out hb37)
        replace HVy2 := Aside0.mk (Kd.V_below HVy2.out hb37)
        replace HVy3 := Aside0.mk (Kd.V_below HVy3.out hb37)
        replace HVy4 := Aside0.mk (Kd.V_below HVy4.out hb37)
        replace HVy6 := Aside0.mk (Kd.V_below HVy6.out hb37)
        replace HB := Aside0.mk (below_step HB.out hb37)
        clear hb37
        go_wp2_with (fail)
        refine (laws_rSorted.calls k8 Ay2 cy2 pl true _ (Kd.V_reads' HVy2.out).2.2 (Kd.V_reads' HVy2.out).2.1 X8.out).mono ?_
        rintro e_ w38 ⟨rfl, hb38⟩
        replace hb38 := hb38.below
        replace HVo := Aside0.mk (Kd.V_below HVo.out hb38)
        replace HVi1 := Aside0.mk (Kd.V_below HVi1.out hb38)
        replace HVb1 := Aside0.mk (Kd.V_below HVb1.out hb38)
        replace HVt1 := Aside0.mk (Kd.V_below HVt1.out hb38)
        replace HVa1 := Aside0.mk (Kd.V_below HVa1.out hb38)
        replace HVr1 := Aside0.mk (Kd.V_below HVr1.out hb38)
        replace HVy1 := Aside0.mk (Kd.V_below HVy1.out hb38)
        replace HVy2 := Aside0.mk (Kd.V_below HVy2.out hb38)
        replace HVy3 := Aside0.mk (Kd.V_below HVy3.out hb38)
        replace HVy4 := Aside0.mk (Kd.V_below HVy4.out hb38)
        replace HVy6 := Aside0.mk (Kd.V_below HVy6.out hb38)
        replace HB := Aside0.mk (below_step HB.out hb38)
        clear hb38
        go_wp2_with (fail)
        refine (laws_rInts.calls k7 Ay3 cy3 o Ao co o true _ (Kd.V_reads' HVy3.out).2.2 (Kd.V_reads' HVy3.out).2.1 (Kd.V_reads' HVo.out).2.2 (Kd.V_reads' HVo.out).2.1 X7.out).mono ?_
        rintro e_ w39 ⟨rfl, hb39⟩
        replace hb39 := hb39.below
        replace HVo := Aside0.mk (Kd.V_below HVo.out hb39)
        replace HVi1 := Aside0.mk (Kd.V_below HVi1.out hb39)
        replace HVb1 := Aside0.mk (Kd.V_below HVb1.out hb39)
        replace HVt1 := Aside0.mk (Kd.V_below HVt1.out hb39)
        replace HVa1 := Aside0.mk (Kd.V_below HVa1.out hb39)
        replace HVr1 := Aside0.mk (Kd.V_below HVr1.out hb39)
        replace HVy1 := Aside0.mk (Kd.V_below HVy1.out hb39)
        replace HVy2 := Aside0.mk (Kd.V_below HVy2.out hb39)
        replace HVy3 := Aside0.mk (Kd.V_below HVy3.out hb39)
        replace HVy4 := Aside0.mk (Kd.V_below HVy4.out hb39)
        replace HVy6 := Aside0.mk (Kd.V_below HVy6.out hb39)
        replace HB := Aside0.mk (below_step HB.out hb39)
        clear hb39
        go_wp2_with (fail)
        refine (laws_rInts.calls k7 Ay4 cy4 o Ao co o true _ (Kd.V_reads' HVy4.out).2.2 (Kd.V_reads' HVy4.out).2.1 (Kd.V_reads' HVo.out).2.2 (Kd.V_reads' HVo.out).2.1 X7.out).mono ?_
        rintro e_ w40 ⟨rfl, hb40⟩
        replace hb40 := hb40.below
        replace HVo := Aside0.mk (Kd.V_below HVo.out hb40)
        replace HVi1 := Aside0.mk (Kd.V_below HVi1.out hb40)
        replace HVb1 := Aside0.mk (Kd.V_below HVb1.out hb40)
        replace HVt1 := Aside0.mk (Kd.V_below HVt1.out hb40)
        replace HVa1 := Aside0.mk (Kd.V_below HVa1.out hb40)
        replace HVr1 := Aside0.mk (Kd.V_below HVr1.out hb40)
        replace HVy1 := Aside0.mk (Kd.V_below HVy1.out hb40)
        replace HVy2 := Aside0.mk (Kd.V_below HVy2.out hb40)
        replace HVy3 := Aside0.mk (Kd.V_below HVy3.out hb40)
        replace HVy4 := Aside0.mk (Kd.V_below HVy4.out hb40)
        replace HVy6 := Aside0.mk (Kd.V_below HVy6.out hb40)
        replace HB := Aside0.mk (below_step HB.out hb40)
        clear hb40
        have x9 := X9.out
        go_wp2_with (fail)
        refine (laws_rInts.calls k7 Ay6 cy6 o Ao co o true _ (Kd.V_reads' HVy6.out).2.2 (Kd.V_reads' HVy6.out).2.1 (Kd.V_reads' HVo.out).2.2 (Kd.V_reads' HVo.out).2.1 X7.out).mono ?_
        rintro e_ w41 ⟨rfl, hb41⟩
        replace hb41 := hb41.below
        replace HVo := Aside0.mk (Kd.V_below HVo.out hb41)
        replace HVi1 := Aside0.mk (Kd.V_below HVi1.out hb41)
        replace HVb1 := Aside0.mk (Kd.V_below HVb1.out hb41)
        replace HVt1 := Aside0.mk (Kd.V_below HVt1.out hb41)
        replace HVa1 := Aside0.mk (Kd.V_below HVa1.out hb41)
        replace HVr1 := Aside0.mk (Kd.V_below HVr1.out hb41)
        replace HVy1 := Aside0.mk (Kd.V_below HVy1.out hb41)
        replace HVy2 := Aside0.mk (Kd.V_below HVy2.out hb41)
        replace HVy3 := Aside0.mk (Kd.V_below HVy3.out hb41)
        replace HVy4 := Aside0.mk (Kd.V_below HVy4.out hb41)
        replace HVy6 := Aside0.mk (Kd.V_below HVy6.out hb41)
        replace HB := Aside0.mk (below_step HB.out hb41)
        clear hb41
        go_wp2_with (fail)
        go_ret
        exact ⟨rfl, HB.out⟩
    | true =>
      obtain ⟨ke, fke⟩ := height.out rfl
      have XE := Aside0.mk (fke ke (Nat.le_refl _))
      clear fke
      go_wp2_with (fail)
      refine (impl_OrderText.calls ke Ar1 cr1 read s true _ (Kd.V_reads' HVr1.out).2.2 (Kd.V_reads' HVr1.out).2.1 XE.out).mono ?_
      rintro e_ w31 ⟨rfl, hb31⟩
      replace HVo := Aside0.mk (Kd.V_below HVo.out hb31)
      replace HVi1 := Aside0.mk (Kd.V_below HVi1.out hb31)
      replace HVb1 := Aside0.mk (Kd.V_below HVb1.out hb31)
      replace HVt1 := Aside0.mk (Kd.V_below HVt1.out hb31)
      replace HVa1 := Aside0.mk (Kd.V_below HVa1.out hb31)
      replace HVr1 := Aside0.mk (Kd.V_below HVr1.out hb31)
      replace HB := Aside0.mk (below_step HB.out hb31)
      clear hb31
      clear XE height
      cases ok with
      | false =>
        go_wp2_with (fail)
        go_ret
        exact ⟨rfl, HB.out⟩
      | true =>
        obtain ⟨x1, x2, x3, x4, x5, x6, x7, x8, x9⟩ := hok.out rfl
        obtain ⟨k1, fk1⟩ := x1
        have X1 := Aside0.mk (fk1 k1 (Nat.le_refl _))
        clear fk1
        obtain ⟨k2, fk2⟩ := x2
        have X2 := Aside0.mk (fk2 k2 (Nat.le_refl _))
        clear fk2
        obtain ⟨k3, fk3⟩ := x3
        have X3 := Aside0.mk (fk3 k3 (Nat.le_refl _))
        clear fk3
        obtain ⟨k4, fk4⟩ := x4
        have X4 := Aside0.mk (fk4 k4 (Nat.le_refl _))
        clear fk4
        obtain ⟨k5, fk5⟩ := x5
        have X5 := Aside0.mk (fk5 k5 (Nat.le_refl _))
        clear fk5
        obtain ⟨k6, fk6⟩ := x6
        have X6 := Aside0.mk (fk6 k6 (Nat.le_refl _))
        clear fk6
        obtain ⟨k7, fk7⟩ := x7
        have X7 := Aside0.mk (fk7 k7 (Nat.le_refl _))
        clear fk7
        obtain ⟨k8, fk8⟩ := x8
        have X8 := Aside0.mk (fk8 k8 (Nat.le_refl _))
        clear fk8
        have X9 := Aside0.mk x9
        clear x9 hok
        go_wp2_with (fail)
        refine (impl_InverseOrder.calls k1 Ai1 ci1 inv o true _ (Kd.V_reads' HVi1.out).2.2 (Kd.V_reads' HVi1.out).2.1 X1.out).mono ?_
        rintro e_ w32 ⟨v0_32, rfl, hv0_32, hb32⟩
        obtain ⟨Ay1, cy1, rfl, gv0_32⟩ := led_R hv0_32
        have HVy1 := Aside0.mk gv0_32
        clear gv0_32 hv0_32
        replace HVo := Aside0.mk (Kd.V_below HVo.out hb32)
        replace HVi1 := Aside0.mk (Kd.V_below HVi1.out hb32)
        replace HVb1 := Aside0.mk (Kd.V_below HVb1.out hb32)
        replace HVt1 := Aside0.mk (Kd.V_below HVt1.out hb32)
        replace HVa1 := Aside0.mk (Kd.V_below HVa1.out hb32)
        replace HVr1 := Aside0.mk (Kd.V_below HVr1.out hb32)
        replace HB := Aside0.mk (below_step HB.out hb32)
        clear hb32
        go_wp2_with (fail)
        refine (impl_ComposeOrders.calls k2 Ao co o Ai1 ci1 inv pl true _ (Kd.V_reads' HVo.out).2.2 (Kd.V_reads' HVo.out).2.1 (Kd.V_reads' HVi1.out).2.2 (Kd.V_reads' HVi1.out).2.1 X2.out).mono ?_
        rintro e_ w33 ⟨v0_33, rfl, hv0_33, hb33⟩
        obtain ⟨Ay2, cy2, rfl, gv0_33⟩ := led_R hv0_33
        have HVy2 := Aside0.mk gv0_33
        clear gv0_33 hv0_33
        replace HVo := Aside0.mk (Kd.V_below HVo.out hb33)
        replace HVi1 := Aside0.mk (Kd.V_below HVi1.out hb33)
        replace HVb1 := Aside0.mk (Kd.V_below HVb1.out hb33)
        replace HVt1 := Aside0.mk (Kd.V_below HVt1.out hb33)
        replace HVa1 := Aside0.mk (Kd.V_below HVa1.out hb33)
        replace HVr1 := Aside0.mk (Kd.V_below HVr1.out hb33)
        replace HVy1 := Aside0.mk (Kd.V_below HVy1.out hb33)
        replace HB := Aside0.mk (below_step HB.out hb33)
        clear hb33
        go_wp2_with (fail)
        refine (impl_BackOrder.calls k3 Ab1 cb1 back o true _ (Kd.V_reads' HVb1.out).2.2 (Kd.V_reads' HVb1.out).2.1 X3.out).mono ?_
        rintro e_ w34 ⟨v0_34, rfl, hv0_34, hb34⟩
        obtain ⟨Ay3, cy3, rfl, gv0_34⟩ := led_R hv0_34
        have HVy3 := Aside0.mk gv0_34
        clear gv0_34 hv0_34
        replace HVo := Aside0.mk (Kd.V_below HVo.out hb34)
        replace HVi1 := Aside0.mk (Kd.V_below HVi1.out hb34)
        replace HVb1 := Aside0.mk (Kd.V_below HVb1.out hb34)
        replace HVt1 := Aside0.mk (Kd.V_below HVt1.out hb34)
        replace HVa1 := Aside0.mk (Kd.V_below HVa1.out hb34)
        replace HVr1 := Aside0.mk (Kd.V_below HVr1.out hb34)
        replace HVy1 := Aside0.mk (Kd.V_below HVy1.out hb34)
        replace HVy2 := Aside0.mk (Kd.V_below HVy2.out hb34)
        replace HB := Aside0.mk (below_step HB.out hb34)
        clear hb34
        go_wp2_with (fail)
        refine (impl_OtherOrder.calls k4 At1 ct1 oth o true _ (Kd.V_reads' HVt1.out).2.2 (Kd.V_reads' HVt1.out).2.1 X4.out).mono ?_
        rintro e_ w35 ⟨v0_35, rfl, hv0_35, hb35⟩
        obtain ⟨Ay4, cy4, rfl, gv0_35⟩ := led_R hv0_35
        have HVy4 := Aside0.mk gv0_35
        clear gv0_35 hv0_35
        replace HVo := Aside0.mk (Kd.V_below HVo.out hb35)
        replace HVi1 := Aside0.mk (Kd.V_below HVi1.out hb35)
        replace HVb1 := Aside0.mk (Kd.V_below HVb1.out hb35)
        replace HVt1 := Aside0.mk (Kd.V_below HVt1.out hb35)
        replace HVa1 := Aside0.mk (Kd.V_below HVa1.out hb35)
        replace HVr1 := Aside0.mk (Kd.V_below HVr1.out hb35)
        replace HVy1 := Aside0.mk (Kd.V_below HVy1.out hb35)
        replace HVy2 := Aside0.mk (Kd.V_below HVy2.out hb35)
        replace HVy3 := Aside0.mk (Kd.V_below HVy3.out hb35)
        replace HB := Aside0.mk (below_step HB.out hb35)
        clear hb35
        go_wp2_with (fail)
        refine (impl_CountInversions.calls k5 Ab1 cb1 back few true _ (Kd.V_reads' HVb1.out).2.2 (Kd.V_reads' HVb1.out).2.1 X5.out).mono ?_
        rintro e_ w36 ⟨rfl, hb36⟩
        replace hb36 := hb36.below
        replace HVo := Aside0.mk (Kd.V_below HVo.out hb36)
        replace HVi1 := Aside0.mk (Kd.V_below HVi1.out hb36)
        replace HVb1 := Aside0.mk (Kd.V_below HVb1.out hb36)
        replace HVt1 := Aside0.mk (Kd.V_below HVt1.out hb36)
        replace HVa1 := Aside0.mk (Kd.V_below HVa1.out hb36)
        replace HVr1 := Aside0.mk (Kd.V_below HVr1.out hb36)
        replace HVy1 := Aside0.mk (Kd.V_below HVy1.out hb36)
        replace HVy2 := Aside0.mk (Kd.V_below HVy2.out hb36)
        replace HVy3 := Aside0.mk (Kd.V_below HVy3.out hb36)
        replace HVy4 := Aside0.mk (Kd.V_below HVy4.out hb36)
        replace HB := Aside0.mk (below_step HB.out hb36)
        clear hb36
        go_wp2_with (fail)
        refine (impl_OrderAt.calls k6 ((o.length : Int)) rank o true _ X6.out).mono ?_
        rintro e_ w37 ⟨v0_37, rfl, hv0_37, hb37⟩
        obtain ⟨Ay6, cy6, rfl, gv0_37⟩ := led_R hv0_37
        have HVy6 := Aside0.mk gv0_37
        clear gv0_37 hv0_37
        replace HVo := Aside0.mk (Kd.V_below HVo.out hb37)
        replace HVi1 := Aside0.mk (Kd.V_below HVi1.out hb37)
        replace HVb1 := Aside0.mk (Kd.V_below HVb1.out hb37)
        replace HVt1 := Aside0.mk (Kd.V_below HVt1.out hb37)
        replace HVa1 := Aside0.mk (Kd.V_below HVa1.out hb37)
        replace HVr1 := Aside0.mk (Kd.V_below HVr1.out hb37)
        replace HVy1 := Aside0.mk (Kd.V_below HVy1.out hb37)
        replace HVy2 := Aside0.mk (Kd.V_below HVy2.out hb37)
        replace HVy3 := Aside0.mk (Kd.V_below HVy3.out hb37)
        replace HVy4 := Aside0.mk (Kd.V_below HVy4.out hb37)
        replace HB := Aside0.mk (below_step HB.out hb37)
        clear hb37
        go_wp2_with (fail)
        refine (laws_rInts.calls k7 Ay1 cy1 o Ao co o true _ (Kd.V_reads' HVy1.out).2.2 (Kd.V_reads' HVy1.out).2.1 (Kd.V_reads' HVo.out).2.2 (Kd.V_reads' HVo.out).2.1 X7.out).mono ?_
        rintro e_ w38 ⟨rfl, hb38⟩
        replace hb38 := hb38.below
        replace HVo := Aside0.mk (Kd.V_below HVo.out hb38)
        replace HVi1 := Aside0.mk (Kd.V_below HVi1.out hb38)
        replace HVb1 := Aside0.mk (Kd.V_below HVb1.out hb38)
        replace HVt1 := Aside0.mk (Kd.V_below HVt1.out hb38)
        replace HVa1 := Aside0.mk (Kd.V_below HVa1.out hb38)
        replace HVr1 := Aside0.mk (Kd.V_below HVr1.out hb38)
        replace HVy1 := Aside0.mk (Kd.V_below HVy1.out hb38)
        replace HVy2 := Aside0.mk (Kd.V_below HVy2.out hb38)
        replace HVy3 := Aside0.mk (Kd.V_below HVy3.out hb38)
        replace HVy4 := Aside0.mk (Kd.V_below HVy4.out hb38)
        replace HVy6 := Aside0.mk (Kd.V_below HVy6.out hb38)
        replace HB := Aside0.mk (below_step HB.out hb38)
        clear hb38
        go_wp2_with (fail)
        refine (laws_rSorted.calls k8 Ay2 cy2 pl true _ (Kd.V_reads' HVy2.out).2.2 (Kd.V_reads' HVy2.out).2.1 X8.out).mono ?_
        rintro e_ w39 ⟨rfl, hb39⟩
        replace hb39 := hb39.below
        replace HVo := Aside0.mk (Kd.V_below HVo.out hb39)
        replace HVi1 := Aside0.mk (Kd.V_below HVi1.out hb39)
        replace HVb1 := Aside0.mk (Kd.V_below HVb1.out hb39)
        replace HVt1 := Aside0.mk (Kd.V_below HVt1.out hb39)
        replace HVa1 := Aside0.mk (Kd.V_below HVa1.out hb39)
        replace HVr1 := Aside0.mk (Kd.V_below HVr1.out hb39)
        replace HVy1 := Aside0.mk (Kd.V_below HVy1.out hb39)
        replace HVy2 := Aside0.mk (Kd.V_below HVy2.out hb39)
        replace HVy3 := Aside0.mk (Kd.V_below HVy3.out hb39)
        replace HVy4 := Aside0.mk (Kd.V_below HVy4.out hb39)
        replace HVy6 := Aside0.mk (Kd.V_below HVy6.out hb39)
        replace HB := Aside0.mk (below_step HB.out hb39)
        clear hb39
        go_wp2_with (fail)
        refine (laws_rInts.calls k7 Ay3 cy3 o Ao co o true _ (Kd.V_reads' HVy3.out).2.2 (Kd.V_reads' HVy3.out).2.1 (Kd.V_reads' HVo.out).2.2 (Kd.V_reads' HVo.out).2.1 X7.out).mono ?_
        rintro e_ w40 ⟨rfl, hb40⟩
        replace hb40 := hb40.below
        replace HVo := Aside0.mk (Kd.V_below HVo.out hb40)
        replace HVi1 := Aside0.mk (Kd.V_below HVi1.out hb40)
        replace HVb1 := Aside0.mk (Kd.V_below HVb1.out hb40)
        replace HVt1 := Aside0.mk (Kd.V_below HVt1.out hb40)
        replace HVa1 := Aside0.mk (Kd.V_below HVa1.out hb40)
        replace HVr1 := Aside0.mk (Kd.V_below HVr1.out hb40)
        replace HVy1 := Aside0.mk (Kd.V_below HVy1.out hb40)
        replace HVy2 := Aside0.mk (Kd.V_below HVy2.out hb40)
        replace HVy3 := Aside0.mk (Kd.V_below HVy3.out hb40)
        replace HVy4 := Aside0.mk (Kd.V_below HVy4.out hb40)
        replace HVy6 := Aside0.mk (Kd.V_below HVy6.out hb40)
        replace HB := Aside0.mk (below_step HB.out hb40)
        clear hb40
        go_wp2_with (fail)
        refine (laws_rInts.calls k7 Ay4 cy4 o Ao co o true _ (Kd.V_reads' HVy4.out).2.2 (Kd.V_reads' HVy4.out).2.1 (Kd.V_reads' HVo.out).2.2 (Kd.V_reads' HVo.out).2.1 X7.out).mono ?_
        rintro e_ w41 ⟨rfl, hb41⟩
        replace hb41 := hb41.below
        replace HVo := Aside0.mk (Kd.V_below HVo.out hb41)
        replace HVi1 := Aside0.mk (Kd.V_below HVi1.out hb41)
        replace HVb1 := Aside0.mk (Kd.V_below HVb1.out hb41)
        replace HVt1 := Aside0.mk (Kd.V_below HVt1.out hb41)
        replace HVa1 := Aside0.mk (Kd.V_below HVa1.out hb41)
        replace HVr1 := Aside0.mk (Kd.V_below HVr1.out hb41)
        replace HVy1 := Aside0.mk (Kd.V_below HVy1.out hb41)
        replace HVy2 := Aside0.mk (Kd.V_below HVy2.out hb41)
        replace HVy3 := Aside0.mk (Kd.V_below HVy3.out hb41)
        replace HVy4 := Aside0.mk (Kd.V_below HVy4.out hb41)
        replace HVy6 := Aside0.mk (Kd.V_below HVy6.out hb41)
        replace HB := Aside0.mk (below_step HB.out hb41)
        clear hb41
        have x9 := X9.out
        go_wp2_with (fail)
        refine (laws_rInts.calls k7 Ay6 cy6 o Ao co o true _ (Kd.V_reads' HVy6.out).2.2 (Kd.V_reads' HVy6.out).2.1 (Kd.V_reads' HVo.out).2.2 (Kd.V_reads' HVo.out).2.1 X7.out).mono ?_
        rintro e_ w42 ⟨rfl, hb42⟩
        replace hb42 := hb42.below
        replace HVo := Aside0.mk (Kd.V_below HVo.out hb42)
        replace HVi1 := Aside0.mk (Kd.V_below HVi1.out hb42)
        replace HVb1 := Aside0.mk (Kd.V_below HVb1.out hb42)
        replace HVt1 := Aside0.mk (Kd.V_below HVt1.out hb42)
        replace HVa1 := Aside0.mk (Kd.V_below HVa1.out hb42)
        replace HVr1 := Aside0.mk (Kd.V_below HVr1.out hb42)
        replace HVy1 := Aside0.mk (Kd.V_below HVy1.out hb42)
        replace HVy2 := Aside0.mk (Kd.V_below HVy2.out hb42)
        replace HVy3 := Aside0.mk (Kd.V_below HVy3.out hb42)
        replace HVy4 := Aside0.mk (Kd.V_below HVy4.out hb42)
        replace HVy6 := Aside0.mk (Kd.V_below HVy6.out hb42)
        replace HB := Aside0.mk (below_step HB.out hb42)
        clear hb42
        go_wp2_with (fail)
        go_ret
        exact ⟨rfl, HB.out⟩
  | true =>
    obtain ⟨ks, fks⟩ := hseven.out rfl
    have XS := Aside0.mk (fks ks (Nat.le_refl _))
    clear fks
    go_wp2_with (fail)
    refine (impl_RankOfOrder.calls ks Aa1 ca1 at_ k_ true _ (Kd.V_reads' HVa1.out).2.2 (Kd.V_reads' HVa1.out).2.1 XS.out).mono ?_
    rintro e_ w31 ⟨rfl, hb31⟩
    replace HVo := Aside0.mk (Kd.V_below HVo.out hb31)
    replace HVi1 := Aside0.mk (Kd.V_below HVi1.out hb31)
    replace HVb1 := Aside0.mk (Kd.V_below HVb1.out hb31)
    replace HVt1 := Aside0.mk (Kd.V_below HVt1.out hb31)
    replace HVa1 := Aside0.mk (Kd.V_below HVa1.out hb31)
    replace HVr1 := Aside0.mk (Kd.V_below HVr1.out hb31)
    replace HB := Aside0.mk (below_step HB.out hb31)
    clear hb31
    clear XS hseven
    cases eight with
    | false =>
      clear height
      cases ok with
      | false =>
        go_wp2_with (fail)
        go_ret
        exact ⟨rfl, HB.out⟩
      | true =>
        obtain ⟨x1, x2, x3, x4, x5, x6, x7, x8, x9⟩ := hok.out rfl
        obtain ⟨k1, fk1⟩ := x1
        have X1 := Aside0.mk (fk1 k1 (Nat.le_refl _))
        clear fk1
        obtain ⟨k2, fk2⟩ := x2
        have X2 := Aside0.mk (fk2 k2 (Nat.le_refl _))
        clear fk2
        obtain ⟨k3, fk3⟩ := x3
        have X3 := Aside0.mk (fk3 k3 (Nat.le_refl _))
        clear fk3
        obtain ⟨k4, fk4⟩ := x4
        have X4 := Aside0.mk (fk4 k4 (Nat.le_refl _))
        clear fk4
        obtain ⟨k5, fk5⟩ := x5
        have X5 := Aside0.mk (fk5 k5 (Nat.le_refl _))
        clear fk5
        obtain ⟨k6, fk6⟩ := x6
        have X6 := Aside0.mk (fk6 k6 (Nat.le_refl _))
        clear fk6
        obtain ⟨k7, fk7⟩ := x7
        have X7 := Aside0.mk (fk7 k7 (Nat.le_refl _))
        clear fk7
        obtain ⟨k8, fk8⟩ := x8
        have X8 := Aside0.mk (fk8 k8 (Nat.le_refl _))
        clear fk8
        have X9 := Aside0.mk x9
        clear x9 hok
        go_wp2_with (fail)
        refine (impl_InverseOrder.calls k1 Ai1 ci1 inv o true _ (Kd.V_reads' HVi1.out).2.2 (Kd.V_reads' HVi1.out).2.1 X1.out).mono ?_
        rintro e_ w32 ⟨v0_32, rfl, hv0_32, hb32⟩
        obtain ⟨Ay1, cy1, rfl, gv0_32⟩ := led_R hv0_32
        have HVy1 := Aside0.mk gv0_32
        clear gv0_32 hv0_32
        replace HVo := Aside0.mk (Kd.V_below HVo.out hb32)
        replace HVi1 := Aside0.mk (Kd.V_below HVi1.out hb32)
        replace HVb1 := Aside0.mk (Kd.V_below HVb1.out hb32)
        replace HVt1 := Aside0.mk (Kd.V_below HVt1.out hb32)
        replace HVa1 := Aside0.mk (Kd.V_below HVa1.out hb32)
        replace HVr1 := Aside0.mk (Kd.V_below HVr1.out hb32)
        replace HB := Aside0.mk (below_step HB.out hb32)
        clear hb32
        go_wp2_with (fail)
        refine (impl_ComposeOrders.calls k2 Ao co o Ai1 ci1 inv pl true _ (Kd.V_reads' HVo.out).2.2 (Kd.V_reads' HVo.out).2.1 (Kd.V_reads' HVi1.out).2.2 (Kd.V_reads' HVi1.out).2.1 X2.out).mono ?_
        rintro e_ w33 ⟨v0_33, rfl, hv0_33, hb33⟩
        obtain ⟨Ay2, cy2, rfl, gv0_33⟩ := led_R hv0_33
        have HVy2 := Aside0.mk gv0_33
        clear gv0_33 hv0_33
        replace HVo := Aside0.mk (Kd.V_below HVo.out hb33)
        replace HVi1 := Aside0.mk (Kd.V_below HVi1.out hb33)
        replace HVb1 := Aside0.mk (Kd.V_below HVb1.out hb33)
        replace HVt1 := Aside0.mk (Kd.V_below HVt1.out hb33)
        replace HVa1 := Aside0.mk (Kd.V_below HVa1.out hb33)
        replace HVr1 := Aside0.mk (Kd.V_below HVr1.out hb33)
        replace HVy1 := Aside0.mk (Kd.V_below HVy1.out hb33)
        replace HB := Aside0.mk (below_step HB.out hb33)
        clear hb33
        go_wp2_with (fail)
        refine (impl_BackOrder.calls k3 Ab1 cb1 back o true _ (Kd.V_reads' HVb1.out).2.2 (Kd.V_reads' HVb1.out).2.1 X3.out).mono ?_
        rintro e_ w34 ⟨v0_34, rfl, hv0_34, hb34⟩
        obtain ⟨Ay3, cy3, rfl, gv0_34⟩ := led_R hv0_34
        have HVy3 := Aside0.mk gv0_34
        clear gv0_34 hv0_34
        replace HVo := Aside0.mk (Kd.V_below HVo.out hb34)
        replace HVi1 := Aside0.mk (Kd.V_below HVi1.out hb34)
        replace HVb1 := Aside0.mk (Kd.V_below HVb1.out hb34)
        replace HVt1 := Aside0.mk (Kd.V_below HVt1.out hb34)
        replace HVa1 := Aside0.mk (Kd.V_below HVa1.out hb34)
        replace HVr1 := Aside0.mk (Kd.V_below HVr1.out hb34)
        replace HVy1 := Aside0.mk (Kd.V_below HVy1.out hb34)
        replace HVy2 := Aside0.mk (Kd.V_below HVy2.out hb34)
        replace HB := Aside0.mk (below_step HB.out hb34)
        clear hb34
        go_wp2_with (fail)
        refine (impl_OtherOrder.calls k4 At1 ct1 oth o true _ (Kd.V_reads' HVt1.out).2.2 (Kd.V_reads' HVt1.out).2.1 X4.out).mono ?_
        rintro e_ w35 ⟨v0_35, rfl, hv0_35, hb35⟩
        obtain ⟨Ay4, cy4, rfl, gv0_35⟩ := led_R hv0_35
        have HVy4 := Aside0.mk gv0_35
        clear gv0_35 hv0_35
        replace HVo := Aside0.mk (Kd.V_below HVo.out hb35)
        replace HVi1 := Aside0.mk (Kd.V_below HVi1.out hb35)
        replace HVb1 := Aside0.mk (Kd.V_below HVb1.out hb35)
        replace HVt1 := Aside0.mk (Kd.V_below HVt1.out hb35)
        replace HVa1 := Aside0.mk (Kd.V_below HVa1.out hb35)
        replace HVr1 := Aside0.mk (Kd.V_below HVr1.out hb35)
        replace HVy1 := Aside0.mk (Kd.V_below HVy1.out hb35)
        replace HVy2 := Aside0.mk (Kd.V_below HVy2.out hb35)
        replace HVy3 := Aside0.mk (Kd.V_below HVy3.out hb35)
        replace HB := Aside0.mk (below_step HB.out hb35)
        clear hb35
        go_wp2_with (fail)
        refine (impl_CountInversions.calls k5 Ab1 cb1 back few true _ (Kd.V_reads' HVb1.out).2.2 (Kd.V_reads' HVb1.out).2.1 X5.out).mono ?_
        rintro e_ w36 ⟨rfl, hb36⟩
        replace hb36 := hb36.below
        replace HVo := Aside0.mk (Kd.V_below HVo.out hb36)
        replace HVi1 := Aside0.mk (Kd.V_below HVi1.out hb36)
        replace HVb1 := Aside0.mk (Kd.V_below HVb1.out hb36)
        replace HVt1 := Aside0.mk (Kd.V_below HVt1.out hb36)
        replace HVa1 := Aside0.mk (Kd.V_below HVa1.out hb36)
        replace HVr1 := Aside0.mk (Kd.V_below HVr1.out hb36)
        replace HVy1 := Aside0.mk (Kd.V_below HVy1.out hb36)
        replace HVy2 := Aside0.mk (Kd.V_below HVy2.out hb36)
        replace HVy3 := Aside0.mk (Kd.V_below HVy3.out hb36)
        replace HVy4 := Aside0.mk (Kd.V_below HVy4.out hb36)
        replace HB := Aside0.mk (below_step HB.out hb36)
        clear hb36
        go_wp2_with (fail)
        refine (impl_OrderAt.calls k6 ((o.length : Int)) rank o true _ X6.out).mono ?_
        rintro e_ w37 ⟨v0_37, rfl, hv0_37, hb37⟩
        obtain ⟨Ay6, cy6, rfl, gv0_37⟩ := led_R hv0_37
        have HVy6 := Aside0.mk gv0_37
        clear gv0_37 hv0_37
        replace HVo := Aside0.mk (Kd.V_below HVo.out hb37)
        replace HVi1 := Aside0.mk (Kd.V_below HVi1.out hb37)
        replace HVb1 := Aside0.mk (Kd.V_below HVb1.out hb37)
        replace HVt1 := Aside0.mk (Kd.V_below HVt1.out hb37)
        replace HVa1 := Aside0.mk (Kd.V_below HVa1.out hb37)
        replace HVr1 := Aside0.mk (Kd.V_below HVr1.out hb37)
        replace HVy1 := Aside0.mk (Kd.V_below HVy1.out hb37)
        replace HVy2 := Aside0.mk (Kd.V_below HVy2.out hb37)
        replace HVy3 := Aside0.mk (Kd.V_below HVy3.out hb37)
        replace HVy4 := Aside0.mk (Kd.V_below HVy4.out hb37)
        replace HB := Aside0.mk (below_step HB.out hb37)
        clear hb37
        go_wp2_with (fail)
        refine (laws_rInts.calls k7 Ay1 cy1 o Ao co o true _ (Kd.V_reads' HVy1.out).2.2 (Kd.V_reads' HVy1.out).2.1 (Kd.V_reads' HVo.out).2.2 (Kd.V_reads' HVo.out).2.1 X7.out).mono ?_
        rintro e_ w38 ⟨rfl, hb38⟩
        replace hb38 := hb38.below
        replace HVo := Aside0.mk (Kd.V_below HVo.out hb38)
        replace HVi1 := Aside0.mk (Kd.V_below HVi1.out hb38)
        replace HVb1 := Aside0.mk (Kd.V_below HVb1.out hb38)
        replace HVt1 := Aside0.mk (Kd.V_below HVt1.out hb38)
        replace HVa1 := Aside0.mk (Kd.V_below HVa1.out hb38)
        replace HVr1 := Aside0.mk (Kd.V_below HVr1.out hb38)
        replace HVy1 := Aside0.mk (Kd.V_below HVy1.out hb38)
        replace HVy2 := Aside0.mk (Kd.V_below HVy2.out hb38)
        replace HVy3 := Aside0.mk (Kd.V_below HVy3.out hb38)
        replace HVy4 := Aside0.mk (Kd.V_below HVy4.out hb38)
        replace HVy6 := Aside0.mk (Kd.V_below HVy6.out hb38)
        replace HB := Aside0.mk (below_step HB.out hb38)
        clear hb38
        go_wp2_with (fail)
        refine (laws_rSorted.calls k8 Ay2 cy2 pl true _ (Kd.V_reads' HVy2.out).2.2 (Kd.V_reads' HVy2.out).2.1 X8.out).mono ?_
        rintro e_ w39 ⟨rfl, hb39⟩
        replace hb39 := hb39.below
        replace HVo := Aside0.mk (Kd.V_below HVo.out hb39)
        replace HVi1 := Aside0.mk (Kd.V_below HVi1.out hb39)
        replace HVb1 := Aside0.mk (Kd.V_below HVb1.out hb39)
        replace HVt1 := Aside0.mk (Kd.V_below HVt1.out hb39)
        replace HVa1 := Aside0.mk (Kd.V_below HVa1.out hb39)
        replace HVr1 := Aside0.mk (Kd.V_below HVr1.out hb39)
        replace HVy1 := Aside0.mk (Kd.V_below HVy1.out hb39)
        replace HVy2 := Aside0.mk (Kd.V_below HVy2.out hb39)
        replace HVy3 := Aside0.mk (Kd.V_below HVy3.out hb39)
        replace HVy4 := Aside0.mk (Kd.V_below HVy4.out hb39)
        replace HVy6 := Aside0.mk (Kd.V_below HVy6.out hb39)
        replace HB := Aside0.mk (below_step HB.out hb39)
        clear hb39
        go_wp2_with (fail)
        refine (laws_rInts.calls k7 Ay3 cy3 o Ao co o true _ (Kd.V_reads' HVy3.out).2.2 (Kd.V_reads' HVy3.out).2.1 (Kd.V_reads' HVo.out).2.2 (Kd.V_reads' HVo.out).2.1 X7.out).mono ?_
        rintro e_ w40 ⟨rfl, hb40⟩
        replace hb40 := hb40.below
        replace HVo := Aside0.mk (Kd.V_below HVo.out hb40)
        replace HVi1 := Aside0.mk (Kd.V_below HVi1.out hb40)
        replace HVb1 := Aside0.mk (Kd.V_below HVb1.out hb40)
        replace HVt1 := Aside0.mk (Kd.V_below HVt1.out hb40)
        replace HVa1 := Aside0.mk (Kd.V_below HVa1.out hb40)
        replace HVr1 := Aside0.mk (Kd.V_below HVr1.out hb40)
        replace HVy1 := Aside0.mk (Kd.V_below HVy1.out hb40)
        replace HVy2 := Aside0.mk (Kd.V_below HVy2.out hb40)
        replace HVy3 := Aside0.mk (Kd.V_below HVy3.out hb40)
        replace HVy4 := Aside0.mk (Kd.V_below HVy4.out hb40)
        replace HVy6 := Aside0.mk (Kd.V_below HVy6.out hb40)
        replace HB := Aside0.mk (below_step HB.out hb40)
        clear hb40
        go_wp2_with (fail)
        refine (laws_rInts.calls k7 Ay4 cy4 o Ao co o true _ (Kd.V_reads' HVy4.out).2.2 (Kd.V_reads' HVy4.out).2.1 (Kd.V_reads' HVo.out).2.2 (Kd.V_reads' HVo.out).2.1 X7.out).mono ?_
        rintro e_ w41 ⟨rfl, hb41⟩
        replace hb41 := hb41.below
        replace HVo := Aside0.mk (Kd.V_below HVo.out hb41)
        replace HVi1 := Aside0.mk (Kd.V_below HVi1.out hb41)
        replace HVb1 := Aside0.mk (Kd.V_below HVb1.out hb41)
        replace HVt1 := Aside0.mk (Kd.V_below HVt1.out hb41)
        replace HVa1 := Aside0.mk (Kd.V_below HVa1.out hb41)
        replace HVr1 := Aside0.mk (Kd.V_below HVr1.out hb41)
        replace HVy1 := Aside0.mk (Kd.V_below HVy1.out hb41)
        replace HVy2 := Aside0.mk (Kd.V_below HVy2.out hb41)
        replace HVy3 := Aside0.mk (Kd.V_below HVy3.out hb41)
        replace HVy4 := Aside0.mk (Kd.V_below HVy4.out hb41)
        replace HVy6 := Aside0.mk (Kd.V_below HVy6.out hb41)
        replace HB := Aside0.mk (below_step HB.out hb41)
        clear hb41
        have x9 := X9.out
        go_wp2_with (fail)
        refine (laws_rInts.calls k7 Ay6 cy6 o Ao co o true _ (Kd.V_reads' HVy6.out).2.2 (Kd.V_reads' HVy6.out).2.1 (Kd.V_reads' HVo.out).2.2 (Kd.V_reads' HVo.out).2.1 X7.out).mono ?_
        rintro e_ w42 ⟨rfl, hb42⟩
        replace hb42 := hb42.below
        replace HVo := Aside0.mk (Kd.V_below HVo.out hb42)
        replace HVi1 := Aside0.mk (Kd.V_below HVi1.out hb42)
        replace HVb1 := Aside0.mk (Kd.V_below HVb1.out hb42)
        replace HVt1 := Aside0.mk (Kd.V_below HVt1.out hb42)
        replace HVa1 := Aside0.mk (Kd.V_below HVa1.out hb42)
        replace HVr1 := Aside0.mk (Kd.V_below HVr1.out hb42)
        replace HVy1 := Aside0.mk (Kd.V_below HVy1.out hb42)
        replace HVy2 := Aside0.mk (Kd.V_below HVy2.out hb42)
        replace HVy3 := Aside0.mk (Kd.V_below HVy3.out hb42)
        replace HVy4 := Aside0.mk (Kd.V_below HVy4.out hb42)
        replace HVy6 := Aside0.mk (Kd.V_below HVy6.out hb42)
        replace HB := Aside0.mk (below_step HB.out hb42)
        clear hb42
        go_wp2_with (fail)
        go_ret
        exact ⟨rfl, HB.out⟩
    | true =>
      obtain ⟨ke, fke⟩ := height.out rfl
      have XE := Aside0.mk (fke ke (Nat.le_refl _))
      clear fke
      go_wp2_with (fail)
      refine (impl_OrderText.calls ke Ar1 cr1 read s true _ (Kd.V_reads' HVr1.out).2.2 (Kd.V_reads' HVr1.out).2.1 XE.out).mono ?_
      rintro e_ w32 ⟨rfl, hb32⟩
      replace HVo := Aside0.mk (Kd.V_below HVo.out hb32)
      replace HVi1 := Aside0.mk (Kd.V_below HVi1.out hb32)
      replace HVb1 := Aside0.mk (Kd.V_below HVb1.out hb32)
      replace HVt1 := Aside0.mk (Kd.V_below HVt1.out hb32)
      replace HVa1 := Aside0.mk (Kd.V_below HVa1.out hb32)
      replace HVr1 := Aside0.mk (Kd.V_below HVr1.out hb32)
      replace HB := Aside0.mk (below_step HB.out hb32)
      clear hb32
      clear XE height
      cases ok with
      | false =>
        go_wp2_with (fail)
        go_ret
        exact ⟨rfl, HB.out⟩
      | true =>
        obtain ⟨x1, x2, x3, x4, x5, x6, x7, x8, x9⟩ := hok.out rfl
        obtain ⟨k1, fk1⟩ := x1
        have X1 := Aside0.mk (fk1 k1 (Nat.le_refl _))
        clear fk1
        obtain ⟨k2, fk2⟩ := x2
        have X2 := Aside0.mk (fk2 k2 (Nat.le_refl _))
        clear fk2
        obtain ⟨k3, fk3⟩ := x3
        have X3 := Aside0.mk (fk3 k3 (Nat.le_refl _))
        clear fk3
        obtain ⟨k4, fk4⟩ := x4
        have X4 := Aside0.mk (fk4 k4 (Nat.le_refl _))
        clear fk4
        obtain ⟨k5, fk5⟩ := x5
        have X5 := Aside0.mk (fk5 k5 (Nat.le_refl _))
        clear fk5
        obtain ⟨k6, fk6⟩ := x6
        have X6 := Aside0.mk (fk6 k6 (Nat.le_refl _))
        clear fk6
        obtain ⟨k7, fk7⟩ := x7
        have X7 := Aside0.mk (fk7 k7 (Nat.le_refl _))
        clear fk7
        obtain ⟨k8, fk8⟩ := x8
        have X8 := Aside0.mk (fk8 k8 (Nat.le_refl _))
        clear fk8
        have X9 := Aside0.mk x9
        clear x9 hok
        go_wp2_with (fail)
        refine (impl_InverseOrder.calls k1 Ai1 ci1 inv o true _ (Kd.V_reads' HVi1.out).2.2 (Kd.V_reads' HVi1.out).2.1 X1.out).mono ?_
        rintro e_ w33 ⟨v0_33, rfl, hv0_33, hb33⟩
        obtain ⟨Ay1, cy1, rfl, gv0_33⟩ := led_R hv0_33
        have HVy1 := Aside0.mk gv0_33
        clear gv0_33 hv0_33
        replace HVo := Aside0.mk (Kd.V_below HVo.out hb33)
        replace HVi1 := Aside0.mk (Kd.V_below HVi1.out hb33)
        replace HVb1 := Aside0.mk (Kd.V_below HVb1.out hb33)
        replace HVt1 := Aside0.mk (Kd.V_below HVt1.out hb33)
        replace HVa1 := Aside0.mk (Kd.V_below HVa1.out hb33)
        replace HVr1 := Aside0.mk (Kd.V_below HVr1.out hb33)
        replace HB := Aside0.mk (below_step HB.out hb33)
        clear hb33
        go_wp2_with (fail)
        refine (impl_ComposeOrders.calls k2 Ao co o Ai1 ci1 inv pl true _ (Kd.V_reads' HVo.out).2.2 (Kd.V_reads' HVo.out).2.1 (Kd.V_reads' HVi1.out).2.2 (Kd.V_reads' HVi1.out).2.1 X2.out).mono ?_
        rintro e_ w34 ⟨v0_34, rfl, hv0_34, hb34⟩
        obtain ⟨Ay2, cy2, rfl, gv0_34⟩ := led_R hv0_34
        have HVy2 := Aside0.mk gv0_34
        clear gv0_34 hv0_34
        replace HVo := Aside0.mk (Kd.V_below HVo.out hb34)
        replace HVi1 := Aside0.mk (Kd.V_below HVi1.out hb34)
        replace HVb1 := Aside0.mk (Kd.V_below HVb1.out hb34)
        replace HVt1 := Aside0.mk (Kd.V_below HVt1.out hb34)
        replace HVa1 := Aside0.mk (Kd.V_below HVa1.out hb34)
        replace HVr1 := Aside0.mk (Kd.V_below HVr1.out hb34)
        replace HVy1 := Aside0.mk (Kd.V_below HVy1.out hb34)
        replace HB := Aside0.mk (below_step HB.out hb34)
        clear hb34
        go_wp2_with (fail)
        refine (impl_BackOrder.calls k3 Ab1 cb1 back o true _ (Kd.V_reads' HVb1.out).2.2 (Kd.V_reads' HVb1.out).2.1 X3.out).mono ?_
        rintro e_ w35 ⟨v0_35, rfl, hv0_35, hb35⟩
        obtain ⟨Ay3, cy3, rfl, gv0_35⟩ := led_R hv0_35
        have HVy3 := Aside0.mk gv0_35
        clear gv0_35 hv0_35
        replace HVo := Aside0.mk (Kd.V_below HVo.out hb35)
        replace HVi1 := Aside0.mk (Kd.V_below HVi1.out hb35)
        replace HVb1 := Aside0.mk (Kd.V_below HVb1.out hb35)
        replace HVt1 := Aside0.mk (Kd.V_below HVt1.out hb35)
        replace HVa1 := Aside0.mk (Kd.V_below HVa1.out hb35)
        replace HVr1 := Aside0.mk (Kd.V_below HVr1.out hb35)
        replace HVy1 := Aside0.mk (Kd.V_below HVy1.out hb35)
        replace HVy2 := Aside0.mk (Kd.V_below HVy2.out hb35)
        replace HB := Aside0.mk (below_step HB.out hb35)
        clear hb35
        go_wp2_with (fail)
        refine (impl_OtherOrder.calls k4 At1 ct1 oth o true _ (Kd.V_reads' HVt1.out).2.2 (Kd.V_reads' HVt1.out).2.1 X4.out).mono ?_
        rintro e_ w36 ⟨v0_36, rfl, hv0_36, hb36⟩
        obtain ⟨Ay4, cy4, rfl, gv0_36⟩ := led_R hv0_36
        have HVy4 := Aside0.mk gv0_36
        clear gv0_36 hv0_36
        replace HVo := Aside0.mk (Kd.V_below HVo.out hb36)
        replace HVi1 := Aside0.mk (Kd.V_below HVi1.out hb36)
        replace HVb1 := Aside0.mk (Kd.V_below HVb1.out hb36)
        replace HVt1 := Aside0.mk (Kd.V_below HVt1.out hb36)
        replace HVa1 := Aside0.mk (Kd.V_below HVa1.out hb36)
        replace HVr1 := Aside0.mk (Kd.V_below HVr1.out hb36)
        replace HVy1 := Aside0.mk (Kd.V_below HVy1.out hb36)
        replace HVy2 := Aside0.mk (Kd.V_below HVy2.out hb36)
        replace HVy3 := Aside0.mk (Kd.V_below HVy3.out hb36)
        replace HB := Aside0.mk (below_step HB.out hb36)
        clear hb36
        go_wp2_with (fail)
        refine (impl_CountInversions.calls k5 Ab1 cb1 back few true _ (Kd.V_reads' HVb1.out).2.2 (Kd.V_reads' HVb1.out).2.1 X5.out).mono ?_
        rintro e_ w37 ⟨rfl, hb37⟩
        replace hb37 := hb37.below
        replace HVo := Aside0.mk (Kd.V_below HVo.out hb37)
        replace HVi1 := Aside0.mk (Kd.V_below HVi1.out hb37)
        replace HVb1 := Aside0.mk (Kd.V_below HVb1.out hb37)
        replace HVt1 := Aside0.mk (Kd.V_below HVt1.out hb37)
        replace HVa1 := Aside0.mk (Kd.V_below HVa1.out hb37)
        replace HVr1 := Aside0.mk (Kd.V_below HVr1.out hb37)
        replace HVy1 := Aside0.mk (Kd.V_below HVy1.out hb37)
        replace HVy2 := Aside0.mk (Kd.V_below HVy2.out hb37)
        replace HVy3 := Aside0.mk (Kd.V_below HVy3.out hb37)
        replace HVy4 := Aside0.mk (Kd.V_below HVy4.out hb37)
        replace HB := Aside0.mk (below_step HB.out hb37)
        clear hb37
        go_wp2_with (fail)
        refine (impl_OrderAt.calls k6 ((o.length : Int)) rank o true _ X6.out).mono ?_
        rintro e_ w38 ⟨v0_38, rfl, hv0_38, hb38⟩
        obtain ⟨Ay6, cy6, rfl, gv0_38⟩ := led_R hv0_38
        have HVy6 := Aside0.mk gv0_38
        clear gv0_38 hv0_38
        replace HVo := Aside0.mk (Kd.V_below HVo.out hb38)
        replace HVi1 := Aside0.mk (Kd.V_below HVi1.out hb38)
        replace HVb1 := Aside0.mk (Kd.V_below HVb1.out hb38)
        replace HVt1 := Aside0.mk (Kd.V_below HVt1.out hb38)
        replace HVa1 := Aside0.mk (Kd.V_below HVa1.out hb38)
        replace HVr1 := Aside0.mk (Kd.V_below HVr1.out hb38)
        replace HVy1 := Aside0.mk (Kd.V_below HVy1.out hb38)
        replace HVy2 := Aside0.mk (Kd.V_below HVy2.out hb38)
        replace HVy3 := Aside0.mk (Kd.V_below HVy3.out hb38)
        replace HVy4 := Aside0.mk (Kd.V_below HVy4.out hb38)
        replace HB := Aside0.mk (below_step HB.out hb38)
        clear hb38
        go_wp2_with (fail)
        refine (laws_rInts.calls k7 Ay1 cy1 o Ao co o true _ (Kd.V_reads' HVy1.out).2.2 (Kd.V_reads' HVy1.out).2.1 (Kd.V_reads' HVo.out).2.2 (Kd.V_reads' HVo.out).2.1 X7.out).mono ?_
        rintro e_ w39 ⟨rfl, hb39⟩
        replace hb39 := hb39.below
        replace HVo := Aside0.mk (Kd.V_below HVo.out hb39)
        replace HVi1 := Aside0.mk (Kd.V_below HVi1.out hb39)
        replace HVb1 := Aside0.mk (Kd.V_below HVb1.out hb39)
        replace HVt1 := Aside0.mk (Kd.V_below HVt1.out hb39)
        replace HVa1 := Aside0.mk (Kd.V_below HVa1.out hb39)
        replace HVr1 := Aside0.mk (Kd.V_below HVr1.out hb39)
        replace HVy1 := Aside0.mk (Kd.V_below HVy1.out hb39)
        replace HVy2 := Aside0.mk (Kd.V_below HVy2.out hb39)
        replace HVy3 := Aside0.mk (Kd.V_below HVy3.out hb39)
        replace HVy4 := Aside0.mk (Kd.V_below HVy4.out hb39)
        replace HVy6 := Aside0.mk (Kd.V_below HVy6.out hb39)
        replace HB := Aside0.mk (below_step HB.out hb39)
        clear hb39
        go_wp2_with (fail)
        refine (laws_rSorted.calls k8 Ay2 cy2 pl true _ (Kd.V_reads' HVy2.out).2.2 (Kd.V_reads' HVy2.out).2.1 X8.out).mono ?_
        rintro e_ w40 ⟨rfl, hb40⟩
        replace hb40 := hb40.below
        replace HVo := Aside0.mk (Kd.V_below HVo.out hb40)
        replace HVi1 := Aside0.mk (Kd.V_below HVi1.out hb40)
        replace HVb1 := Aside0.mk (Kd.V_below HVb1.out hb40)
        replace HVt1 := Aside0.mk (Kd.V_below HVt1.out hb40)
        replace HVa1 := Aside0.mk (Kd.V_below HVa1.out hb40)
        replace HVr1 := Aside0.mk (Kd.V_below HVr1.out hb40)
        replace HVy1 := Aside0.mk (Kd.V_below HVy1.out hb40)
        replace HVy2 := Aside0.mk (Kd.V_below HVy2.out hb40)
        replace HVy3 := Aside0.mk (Kd.V_below HVy3.out hb40)
        replace HVy4 := Aside0.mk (Kd.V_below HVy4.out hb40)
        replace HVy6 := Aside0.mk (Kd.V_below HVy6.out hb40)
        replace HB := Aside0.mk (below_step HB.out hb40)
        clear hb40
        go_wp2_with (fail)
        refine (laws_rInts.calls k7 Ay3 cy3 o Ao co o true _ (Kd.V_reads' HVy3.out).2.2 (Kd.V_reads' HVy3.out).2.1 (Kd.V_reads' HVo.out).2.2 (Kd.V_reads' HVo.out).2.1 X7.out).mono ?_
        rintro e_ w41 ⟨rfl, hb41⟩
        replace hb41 := hb41.below
        replace HVo := Aside0.mk (Kd.V_below HVo.out hb41)
        replace HVi1 := Aside0.mk (Kd.V_below HVi1.out hb41)
        replace HVb1 := Aside0.mk (Kd.V_below HVb1.out hb41)
        replace HVt1 := Aside0.mk (Kd.V_below HVt1.out hb41)
        replace HVa1 := Aside0.mk (Kd.V_below HVa1.out hb41)
        replace HVr1 := Aside0.mk (Kd.V_below HVr1.out hb41)
        replace HVy1 := Aside0.mk (Kd.V_below HVy1.out hb41)
        replace HVy2 := Aside0.mk (Kd.V_below HVy2.out hb41)
        replace HVy3 := Aside0.mk (Kd.V_below HVy3.out hb41)
        replace HVy4 := Aside0.mk (Kd.V_below HVy4.out hb41)
        replace HVy6 := Aside0.mk (Kd.V_below HVy6.out hb41)
        replace HB := Aside0.mk (below_step HB.out hb41)
        clear hb41
        go_wp2_with (fail)
        refine (laws_rInts.calls k7 Ay4 cy4 o Ao co o true _ (Kd.V_reads' HVy4.out).2.2 (Kd.V_reads' HVy4.out).2.1 (Kd.V_reads' HVo.out).2.2 (Kd.V_reads' HVo.out).2.1 X7.out).mono ?_
        rintro e_ w42 ⟨rfl, hb42⟩
        replace hb42 := hb42.below
        replace HVo := Aside0.mk (Kd.V_below HVo.out hb42)
        replace HVi1 := Aside0.mk (Kd.V_below HVi1.out hb42)
        replace HVb1 := Aside0.mk (Kd.V_below HVb1.out hb42)
        replace HVt1 := Aside0.mk (Kd.V_below HVt1.out hb42)
        replace HVa1 := Aside0.mk (Kd.V_below HVa1.out hb42)
        replace HVr1 := Aside0.mk (Kd.V_below HVr1.out hb42)
        replace HVy1 := Aside0.mk (Kd.V_below HVy1.out hb42)
        replace HVy2 := Aside0.mk (Kd.V_below HVy2.out hb42)
        replace HVy3 := Aside0.mk (Kd.V_below HVy3.out hb42)
        replace HVy4 := Aside0.mk (Kd.V_below HVy4.out hb42)
        replace HVy6 := Aside0.mk (Kd.V_below HVy6.out hb42)
        replace HB := Aside0.mk (below_step HB.out hb42)
        clear hb42
        have x9 := X9.out
        go_wp2_with (fail)
        refine (laws_rInts.calls k7 Ay6 cy6 o Ao co o true _ (Kd.V_reads' HVy6.out).2.2 (Kd.V_reads' HVy6.out).2.1 (Kd.V_reads' HVo.out).2.2 (Kd.V_reads' HVo.out).2.1 X7.out).mono ?_
        rintro e_ w43 ⟨rfl, hb43⟩
        replace hb43 := hb43.below
        replace HVo := Aside0.mk (Kd.V_below HVo.out hb43)
        replace HVi1 := Aside0.mk (Kd.V_below HVi1.out hb43)
        replace HVb1 := Aside0.mk (Kd.V_below HVb1.out hb43)
        replace HVt1 := Aside0.mk (Kd.V_below HVt1.out hb43)
        replace HVa1 := Aside0.mk (Kd.V_below HVa1.out hb43)
        replace HVr1 := Aside0.mk (Kd.V_below HVr1.out hb43)
        replace HVy1 := Aside0.mk (Kd.V_below HVy1.out hb43)
        replace HVy2 := Aside0.mk (Kd.V_below HVy2.out hb43)
        replace HVy3 := Aside0.mk (Kd.V_below HVy3.out hb43)
        replace HVy4 := Aside0.mk (Kd.V_below HVy4.out hb43)
        replace HVy6 := Aside0.mk (Kd.V_below HVy6.out hb43)
        replace HB := Aside0.mk (below_step HB.out hb43)
        clear hb43
        go_wp2_with (fail)
        go_ret
        exact ⟨rfl, HB.out⟩
/-- THE ONE PURE STATEMENT of laws_FnOrders. -/
def laws_FnOrders.Pure : Prop := ∀ (l0 : List Int), l0.length ≤ maxLen → l0.length * 1 ≤ 140737488351232 → (∀ x ∈ l0, (Lit.int .u8 x).wf = true) → laws_rBig.f l0 = some true ∨ laws_rBig.f l0 = some false ∧ ∃ (o inv back oth a b made at_ read pl : List Int) (rank many n k_ few : Int) (text s : ByteArray) (ok six seven eight : Bool), laws_FnOrders.Facts l0 o inv back oth a b made at_ read pl rank many n k_ few text s ok six seven eight
set_option maxHeartbeats 8000000 in
set_option maxRecDepth 100000 in
theorem laws_FnOrders.big (A0 : Option Addr) (c0 : Nat) (l0 : List Int) (w : World) (hr0 : Kd.C (Kd.int .u8) w A0 l0.length l0) (hc0 : l0.length ≤ c0) (HBG : laws_rBig.f l0 = some true) :
    Calls Try.prog 9 #[.slice A0 l0.length c0] w fun e w' => e = .returned (.bool true) ∧ Below w.heap.size w w' := by
  have HG := Aside0.mk HBG
  clear HBG
  go_enter Try.func9, Try.ntmps9
  go_wp2_with (fail)
  refine (laws_rBig.calls A0 c0 l0 true _ hr0 hc0 HG.out).mono ?_
  rintro e_ w1 ⟨rfl, hb1⟩
  replace hb1 := hb1.below
  go_wp2_with (fail)
  go_ret
  exact ⟨rfl, hb1⟩
theorem laws_FnOrders.walk (P : laws_FnOrders.Pure) (a0 : Option Addr) (len0 cap0 : Nat) (z0 : List Int) (w : World) (w0 : (a0 = none ∧ len0 = 0 ∧ cap0 = 0 ∧ z0 = []) ∨ ∃ x, a0 = some x ∧ len0 ≤ cap0 ∧ cap0 ≤ maxLen ∧ z0.length = cap0 ∧ (∀ i, i < z0.length → w.cell? (x.add i) = some (.int .u8 (z0.getD i 0))) ∧ ∀ n ∈ z0, (Lit.int .u8 n).wf = true) (y0 : len0 * 1 ≤ 140737488351232) :
    Calls Try.prog 9 #[.slice a0 len0 cap0] w fun e w' => e = .returned (.bool true) ∧ Below w.heap.size w w' := by
  obtain ⟨l0, rfl, hr0, hm0, hw0, hc0⟩ := ReadsInt.ofRowC w0
  rcases P l0 hm0 y0 hw0 with h | ⟨h, o, inv, back, oth, a, b, made, at_, read, pl, rank, many, n, k_, few, text, s, ok, six, seven, eight, F⟩
  · exact laws_FnOrders.big _ _ l0 w (Kd.C_of_reads (d := (0 : Int)) (h1 := fun _ => rfl) hr0) hc0 h
  · exact laws_FnOrders.own o inv back oth a b made at_ read pl rank many n k_ few text s ok six seven eight _ _ l0 w (Kd.C_of_reads (d := (0 : Int)) (h1 := fun _ => rfl) hr0) hc0 h F
end

end Go.Proofs.Ytlkddcabjcejdaa.MFnOrders
