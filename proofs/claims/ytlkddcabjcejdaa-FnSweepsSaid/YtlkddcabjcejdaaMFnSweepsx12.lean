/- The functions that FnSweeps comes to, with a walk for each. Made by this session's own program (wip/tools/mk.py), in the form of the kit's print; walks named in NOTES.md were written by hand. -/
import Derived.Test.YtlkddcabjcejdaaMFnSweepsx0
import Derived.Test.YtlkddcabjcejdaaMFnSweepsx1
import Derived.Test.YtlkddcabjcejdaaMFnSweepsx2
import Derived.Test.YtlkddcabjcejdaaMFnSweepsx5
import Derived.Test.YtlkddcabjcejdaaMFnSweepsx7
import Derived.Test.YtlkddcabjcejdaaMFnSweepsx8
import Derived.Test.YtlkddcabjcejdaaMFnSweepsx9
import Derived.Test.YtlkddcabjcejdaaMFnSweepsx10
import Derived.Test.YtlkddcabjcejdaaMFnSweepsx11
namespace Go.Proofs.Ytlkddcabjcejdaa.MFnSweeps
open Go.RowKit Go.Proofs.YtlkddcabjcejdaaW.PrintWords Go.Proofs.YtlkddcabjcejdaaW.PrintLast Go.Proofs.YtlkddcabjcejdaaW.PrintMore
attribute [local go_sem] max2_int min2_int max_two min_two max_three min_three max_four min_four   -- for this text's walks alone
set_option linter.unusedVariables false
set_option linter.unusedSimpArgs false

/-! ### laws_FnSweeps: function 8 -/
section
open Go.Proofs.Ytlkddcabjcejdaa.Base
theorem led_V {α : Type} {d : Kd α} {e b : Nat} {W : World} {ok : Nat → Prop} {v : Value} {xs : List α} (h : Kd.V d e W b ok v xs) : ∃ A c, v = .slice A xs.length c ∧ Kd.V d e W 0 (fun _ => True) (.slice A xs.length c) xs := by
  obtain ⟨A, c, rfl⟩ := Kd.V_slice h
  exact ⟨A, c, rfl, Kd.V_mono h (fun _ _ => trivial)⟩
theorem led_R {α : Type} {d : Kd α} {e b : Nat} {W : World} {ok : Nat → Prop} {v : Value} {xs : List α} (h : Kd.R d e W b ok v xs) : ∃ A c, v = .slice A xs.length c ∧ Kd.V d e W 0 (fun _ => True) (.slice A xs.length c) xs := led_V (Kd.R_V (base' := 0) h)
theorem led_S {α : Type} {d : Kd α} {e b : Nat} {W : World} {ok : Nat → Prop} {v : Value} {xs : List α} (h : Kd.S d e W b ok v xs) : ∃ A c, v = .slice A xs.length c ∧ Kd.V d e W 0 (fun _ => True) (.slice A xs.length c) xs := led_V (Kd.S_V (base' := 0) h)
theorem led_N {α : Type} {d : Kd α} {e b : Nat} {W : World} {ok : Nat → Prop} {v : Value} {xs : List α} (h : Kd.N d e W b ok v xs) : ∃ A c, v = .slice A xs.length c ∧ Kd.V d e W 0 (fun _ => True) (.slice A xs.length c) xs := led_V (Kd.N_V (base' := 0) h)
theorem led_row {W : World} {A : Option Addr} {c : Nat} {e : TypeId} {rows : List (List Int)} (h : Kd.V (Kd.slice 3 (Kd.int .i64)) e W 0 (fun _ => True) (.slice A rows.length c) rows) (i : Nat) (hi : i < rows.length) : ∃ ad A' c', A = some ad ∧ W.cell? (ad.add i) = some (.slice A' (rows.getD i []).length c') ∧ Kd.V (Kd.int .i64) 3 W 0 (fun _ => True) (.slice A' (rows.getD i []).length c') (rows.getD i []) := by
  obtain ⟨ad, cs, e1, _, hK, hc, _⟩ := Kd.F_get (Kd.V_F h) ([] : List Int) (i : Int) (by omega) (by omega)
  obtain ⟨A', c', rfl, hl, hf⟩ := Kd.FK_slice_open hK
  have h0 := hc 0 _ rfl
  simp only [Int.toNat_natCast] at h0 hl hf
  rw [show (Kd.slice 3 (Kd.int .i64)).sz = 1 from rfl, Nat.mul_one, Nat.add_zero] at h0
  exact ⟨ad, A', c', e1, h0, Kd.V_mk hl hf⟩
theorem led_int {W : World} {A : Option Addr} {c : Nat} {e : TypeId} {xs : List Int} (h : Kd.V (Kd.int .i64) e W 0 (fun _ => True) (.slice A xs.length c) xs) (i : Nat) (hi : i < xs.length) : ∃ ad, A = some ad ∧ W.cell? (ad.add i) = some (.int .i64 (xs.getD i 0)) := by
  obtain ⟨ad, e1, hc⟩ := Kd.at_int (Kd.V_reads' h).2.2 (i : Int) (by omega) (by omega)
  rw [Int.toNat_natCast, show rd xs (i : Int) = xs.getD i 0 from rfl] at hc
  exact ⟨ad, e1, hc⟩
def chkIn (z : List Int) (a b : Int) : Nat → Int → Bool
  | 0, _ => true
  | n + 1, k => !(decide (rd z k ≤ a)) && !(decide (rd z k > a + b)) && chkIn z a b n (k + 1)
def chkB (z : List Int) : List Int → Int → Bool
  | [], a => decide (a = (z.length : Int))
  | b :: s, a => decide (0 ≤ b) && decide (a + b ≤ (z.length : Int)) && chkIn z a b b.toNat a && chkB z s (a + b)
/-- What the calls of the law answer, and what the law asks of it. -/
structure laws_FnSweeps.Facts (l0 : List Int) (o x rec y : List Int) (from_ : List (List Int)) (z bl : List Int) (m : Nat) (ok one two three : Bool) (nw : Nat → List Int) : Prop where
  e1 : laws_rBig.f l0 = some false
  e2 : Ev (fun k => spec_DrawCountSweeps.f k l0) o
  e3 : Ev (fun k => impl_CountSweeps.f k o) (((m : Int), ok))
  e4 : Ev (fun k => spec_CountSweeps.f k o) (((m : Int), ok))
  e5 : Ev (fun k => impl_IsOrder.f k o) ok
  e6 : Ev (fun k => spec_DrawRecordPlaces.f k l0) x
  e7 : Ev (fun k => impl_RecordPlaces.f k x) ((rec, one))
  e8 : Ev (fun k => spec_RecordPlaces.f k x) ((rec, one))
  e9 : Ev (fun k => laws_rInts.f k rec rec) true
  e10 : Ev (fun k => spec_DrawSweptFrom.f k l0) y
  e11 : Ev (fun k => impl_SweptFrom.f k y) ((from_, two))
  e12 : Ev (fun k => spec_SweptFrom.f k y) ((from_, two))
  e13 : Ev (fun k => laws_rLists.f k from_ from_) true
  e14 : Ev (fun k => spec_DrawBlocksOf.f k l0) z
  e15 : Ev (fun k => impl_BlocksOf.f k z) ((bl, three))
  e16 : Ev (fun k => spec_BlocksOf.f k z) ((bl, three))
  e17 : Ev (fun k => laws_rInts.f k bl bl) true
  hone : one = true → 0 < rec.length ∧ rec.getD 0 0 = 0
  hfrom : ∀ r ∈ from_, Ev (fun k => impl_SweepOrder.f k r) (y, true)
  hfl : from_.length ≤ 100000 ∧ y.length ≤ 1000
  hyy : Ev (fun k => laws_rInts.f k y y) true
  hbl : three = true → chkB z bl 0 = true ∧ z.length ≤ 1000 ∧ bl.length ≤ 1000
  hok : ok = true → nw 0 = o ∧ m ≤ 1000 ∧ (∀ i, i < m → Ev (fun k => laws_rSorted.f k (nw i)) false ∧ Ev (fun k => impl_SweepOrder.f k (nw i)) (nw (i + 1), true)) ∧ Ev (fun k => laws_rSorted.f k (nw m)) true ∧ ((m : Int) < (o.length : Int) ∨ m = 0)
set_option maxHeartbeats 16000000 in
set_option maxRecDepth 100000 in
theorem laws_FnSweeps.own (o x rec y : List Int) (from_ : List (List Int)) (z bl : List Int) (m : Nat) (ok one two three : Bool) (nw : Nat → List Int) (A0 : Option Addr) (c0 : Nat) (l0 : List Int) (w : World) (hr0 : Kd.C (Kd.int .u8) w A0 l0.length l0) (hc0 : l0.length ≤ c0) (HBG : laws_rBig.f l0 = some false) (F : laws_FnSweeps.Facts l0 o x rec y from_ z bl m ok one two three nw) :
    Calls Try.prog 8 #[.slice A0 l0.length c0] w fun e w' => e = .returned (.bool true) ∧ Below w.heap.size w w' := by
  have HVc := Aside0.mk hr0
  have HC0 := Aside0.mk hc0
  have H0 := Aside0.mk HBG
  have HB := Aside0.mk (Below.refl w.heap.size w)
  have H1 := Aside0.mk F.e1
  obtain ⟨n2, f2⟩ := F.e2
  have H2 := Aside0.mk (f2 n2 (Nat.le_refl _))
  clear f2
  obtain ⟨n3, f3⟩ := F.e3
  have H3 := Aside0.mk (f3 n3 (Nat.le_refl _))
  clear f3
  obtain ⟨n4, f4⟩ := F.e4
  have H4 := Aside0.mk (f4 n4 (Nat.le_refl _))
  clear f4
  obtain ⟨n5, f5⟩ := F.e5
  have H5 := Aside0.mk (f5 n5 (Nat.le_refl _))
  clear f5
  obtain ⟨n6, f6⟩ := F.e6
  have H6 := Aside0.mk (f6 n6 (Nat.le_refl _))
  clear f6
  obtain ⟨n7, f7⟩ := F.e7
  have H7 := Aside0.mk (f7 n7 (Nat.le_refl _))
  clear f7
  obtain ⟨n8, f8⟩ := F.e8
  have H8 := Aside0.mk (f8 n8 (Nat.le_refl _))
  clear f8
  obtain ⟨n9, f9⟩ := F.e9
  have H9 := Aside0.mk (f9 n9 (Nat.le_refl _))
  clear f9
  obtain ⟨n10, f10⟩ := F.e10
  have H10 := Aside0.mk (f10 n10 (Nat.le_refl _))
  clear f10
  obtain ⟨n11, f11⟩ := F.e11
  have H11 := Aside0.mk (f11 n11 (Nat.le_refl _))
  clear f11
  obtain ⟨n12, f12⟩ := F.e12
  have H12 := Aside0.mk (f12 n12 (Nat.le_refl _))
  clear f12
  obtain ⟨n13, f13⟩ := F.e13
  have H13 := Aside0.mk (f13 n13 (Nat.le_refl _))
  clear f13
  obtain ⟨n14, f14⟩ := F.e14
  have H14 := Aside0.mk (f14 n14 (Nat.le_refl _))
  clear f14
  obtain ⟨n15, f15⟩ := F.e15
  have H15 := Aside0.mk (f15 n15 (Nat.le_refl _))
  clear f15
  obtain ⟨n16, f16⟩ := F.e16
  have H16 := Aside0.mk (f16 n16 (Nat.le_refl _))
  clear f16
  obtain ⟨n17, f17⟩ := F.e17
  have H17 := Aside0.mk (f17 n17 (Nat.le_refl _))
  clear f17
  have hone := Aside0.mk F.hone
  have hfrom := Aside0.mk F.hfrom
  have hfl := Aside0.mk F.hfl
  have hbl := Aside0.mk F.hbl
  have hok := Aside0.mk F.hok
  have hyy := Aside0.mk F.hyy
  clear hr0 hc0 HBG F
  go_enter Try.func8, Try.ntmps8
  go_wp2_with (fail)
  refine (laws_rBig.calls A0 c0 l0 false _ HVc.out HC0.out H1.out).mono ?_
  rintro e_ w1 ⟨rfl, hb1⟩
  replace hb1 := hb1.below
  replace HVc := Aside0.mk (Kd.C_below HVc.out hb1)
  replace HB := Aside0.mk (below_step HB.out hb1)
  clear hb1
  go_wp2_with (fail)
  refine (spec_DrawCountSweeps.calls n2 A0 c0 l0 o _ HVc.out HC0.out H2.out).mono ?_
  rintro e_ w2 ⟨v0_2, rfl, hv0_2, hb2⟩
  obtain ⟨Ao, co, rfl, gv0_2⟩ := led_R hv0_2
  have HVo := Aside0.mk gv0_2
  clear gv0_2 hv0_2
  replace HVc := Aside0.mk (Kd.C_below HVc.out hb2)
  replace HB := Aside0.mk (below_step HB.out hb2)
  clear hb2
  go_wp2_with (fail)
  refine (impl_CountSweeps.calls n3 (fun _ => True) Ao co o ((m : Int)) ok _ HVo.out H3.out).mono ?_
  rintro e_ w3 ⟨rfl, hb3⟩
  replace HVc := Aside0.mk (Kd.C_below HVc.out hb3)
  replace HVo := Aside0.mk (Kd.V_below HVo.out hb3)
  replace HB := Aside0.mk (below_step HB.out hb3)
  clear hb3
  go_wp2_with (fail)
  refine (spec_CountSweeps.calls n4 Ao co o ((m : Int)) ok _ (Kd.V_reads' HVo.out).2.2 (Kd.V_reads' HVo.out).2.1 H4.out).mono ?_
  rintro e_ w4 ⟨rfl, hb4⟩
  replace HVc := Aside0.mk (Kd.C_below HVc.out hb4)
  replace HVo := Aside0.mk (Kd.V_below HVo.out hb4)
  replace HB := Aside0.mk (below_step HB.out hb4)
  clear hb4
  go_wp2_with (fail)
  refine (impl_IsOrder.calls n5 Ao co o ok _ (Kd.V_reads' HVo.out).2.2 (Kd.V_reads' HVo.out).2.1 H5.out).mono ?_
  rintro e_ w5 ⟨rfl, hb5⟩
  replace hb5 := hb5.below
  replace HVc := Aside0.mk (Kd.C_below HVc.out hb5)
  replace HVo := Aside0.mk (Kd.V_below HVo.out hb5)
  replace HB := Aside0.mk (below_step HB.out hb5)
  clear hb5
  go_wp2_with (fail)
  refine (spec_DrawRecordPlaces.calls n6 A0 c0 l0 x _ HVc.out HC0.out H6.out).mono ?_
  rintro e_ w6 ⟨v0_6, rfl, hv0_6, hb6⟩
  obtain ⟨Ax, cx, rfl, gv0_6⟩ := led_R hv0_6
  have HVx := Aside0.mk gv0_6
  clear gv0_6 hv0_6
  replace HVc := Aside0.mk (Kd.C_below HVc.out hb6)
  replace HVo := Aside0.mk (Kd.V_below HVo.out hb6)
  replace HB := Aside0.mk (below_step HB.out hb6)
  clear hb6
  go_wp2_with (fail)
  refine (impl_RecordPlaces.calls n7 Ax cx x rec one _ (Kd.V_reads' HVx.out).2.2 (Kd.V_reads' HVx.out).2.1 H7.out).mono ?_
  rintro e_ w7 ⟨v0_7, rfl, hv0_7, hb7⟩
  obtain ⟨Ar1, cr1, rfl, gv0_7⟩ := led_R hv0_7
  have HVr1 := Aside0.mk gv0_7
  clear gv0_7 hv0_7
  replace HVc := Aside0.mk (Kd.C_below HVc.out hb7)
  replace HVo := Aside0.mk (Kd.V_below HVo.out hb7)
  replace HVx := Aside0.mk (Kd.V_below HVx.out hb7)
  replace HB := Aside0.mk (below_step HB.out hb7)
  clear hb7
  go_wp2_with (fail)
  refine (spec_RecordPlaces.calls n8 Ax cx x rec one _ (Kd.V_reads' HVx.out).2.2 (Kd.V_reads' HVx.out).2.1 H8.out).mono ?_
  rintro e_ w8 ⟨v0_8, rfl, hv0_8, hb8⟩
  obtain ⟨Ar2, cr2, rfl, gv0_8⟩ := led_R hv0_8
  have HVr2 := Aside0.mk gv0_8
  clear gv0_8 hv0_8
  replace HVc := Aside0.mk (Kd.C_below HVc.out hb8)
  replace HVo := Aside0.mk (Kd.V_below HVo.out hb8)
  replace HVx := Aside0.mk (Kd.V_below HVx.out hb8)
  replace HVr1 := Aside0.mk (Kd.V_below HVr1.out hb8)
  replace HB := Aside0.mk (below_step HB.out hb8)
  clear hb8
  go_wp2_with (fail)
  refine (laws_rInts.calls n9 Ar1 cr1 rec Ar2 cr2 rec true _ (Kd.V_reads' HVr1.out).2.2 (Kd.V_reads' HVr1.out).2.1 (Kd.V_reads' HVr2.out).2.2 (Kd.V_reads' HVr2.out).2.1 H9.out).mono ?_
  rintro e_ w9 ⟨rfl, hb9⟩
  replace hb9 := hb9.below
  replace HVc := Aside0.mk (Kd.C_below HVc.out hb9)
  replace HVo := Aside0.mk (Kd.V_below HVo.out hb9)
  replace HVx := Aside0.mk (Kd.V_below HVx.out hb9)
  replace HVr1 := Aside0.mk (Kd.V_below HVr1.out hb9)
  replace HVr2 := Aside0.mk (Kd.V_below HVr2.out hb9)
  replace HB := Aside0.mk (below_step HB.out hb9)
  clear hb9
  clear HVr2
  clear HVx
  go_wp2_with (fail)
  refine (spec_DrawSweptFrom.calls n10 A0 c0 l0 y _ HVc.out HC0.out H10.out).mono ?_
  rintro e_ w10 ⟨v0_10, rfl, hv0_10, hb10⟩
  obtain ⟨Ay, cy, rfl, gv0_10⟩ := led_R hv0_10
  have HVy := Aside0.mk gv0_10
  clear gv0_10 hv0_10
  replace HVc := Aside0.mk (Kd.C_below HVc.out hb10)
  replace HVo := Aside0.mk (Kd.V_below HVo.out hb10)
  replace HVr1 := Aside0.mk (Kd.V_below HVr1.out hb10)
  replace HB := Aside0.mk (below_step HB.out hb10)
  clear hb10
  go_wp2_with (fail)
  refine (impl_SweptFrom.calls n11 Ay cy y from_ two _ (Kd.V_reads' HVy.out).2.2 (Kd.V_reads' HVy.out).2.1 H11.out).mono ?_
  rintro e_ w11 ⟨v0_11, rfl, hv0_11, hb11⟩
  obtain ⟨Af1, cf1, rfl, gv0_11⟩ := led_S hv0_11
  have HVf1 := Aside0.mk gv0_11
  clear gv0_11 hv0_11
  replace HVc := Aside0.mk (Kd.C_below HVc.out hb11)
  replace HVo := Aside0.mk (Kd.V_below HVo.out hb11)
  replace HVr1 := Aside0.mk (Kd.V_below HVr1.out hb11)
  replace HVy := Aside0.mk (Kd.V_below HVy.out hb11)
  replace HB := Aside0.mk (below_step HB.out hb11)
  clear hb11
  go_wp2_with (fail)
  refine (spec_SweptFrom.calls n12 Ay cy y from_ two _ (Kd.V_reads' HVy.out).2.2 (Kd.V_reads' HVy.out).2.1 H12.out).mono ?_
  rintro e_ w12 ⟨v0_12, rfl, hv0_12, hb12⟩
  obtain ⟨Af2, cf2, rfl, gv0_12⟩ := led_N hv0_12
  have HVf2 := Aside0.mk gv0_12
  clear gv0_12 hv0_12
  replace HVc := Aside0.mk (Kd.C_below HVc.out hb12)
  replace HVo := Aside0.mk (Kd.V_below HVo.out hb12)
  replace HVr1 := Aside0.mk (Kd.V_below HVr1.out hb12)
  replace HVy := Aside0.mk (Kd.V_below HVy.out hb12)
  replace HVf1 := Aside0.mk (Kd.V_below HVf1.out hb12)
  replace HB := Aside0.mk (below_step HB.out hb12)
  clear hb12
  go_wp2_with (fail)
  refine (laws_rLists.calls n13 Af1 cf1 from_ Af2 cf2 from_ true _ (Kd.V_reads' HVf1.out).2.2 (Kd.V_reads' HVf1.out).2.1 (Kd.V_reads' HVf2.out).2.2 (Kd.V_reads' HVf2.out).2.1 H13.out).mono ?_
  rintro e_ w13 ⟨rfl, hb13⟩
  replace hb13 := hb13.below
  replace HVc := Aside0.mk (Kd.C_below HVc.out hb13)
  replace HVo := Aside0.mk (Kd.V_below HVo.out hb13)
  replace HVr1 := Aside0.mk (Kd.V_below HVr1.out hb13)
  replace HVy := Aside0.mk (Kd.V_below HVy.out hb13)
  replace HVf1 := Aside0.mk (Kd.V_below HVf1.out hb13)
  replace HVf2 := Aside0.mk (Kd.V_below HVf2.out hb13)
  replace HB := Aside0.mk (below_step HB.out hb13)
  clear hb13
  clear HVf2
  go_wp2_with (fail)
  refine (spec_DrawBlocksOf.calls n14 A0 c0 l0 z _ HVc.out HC0.out H14.out).mono ?_
  rintro e_ w14 ⟨v0_14, rfl, hv0_14, hb14⟩
  obtain ⟨Az, cz, rfl, gv0_14⟩ := led_R hv0_14
  have HVz := Aside0.mk gv0_14
  clear gv0_14 hv0_14
  replace HVc := Aside0.mk (Kd.C_below HVc.out hb14)
  replace HVo := Aside0.mk (Kd.V_below HVo.out hb14)
  replace HVr1 := Aside0.mk (Kd.V_below HVr1.out hb14)
  replace HVy := Aside0.mk (Kd.V_below HVy.out hb14)
  replace HVf1 := Aside0.mk (Kd.V_below HVf1.out hb14)
  replace HB := Aside0.mk (below_step HB.out hb14)
  clear hb14
  clear HVc
  go_wp2_with (fail)
  refine (impl_BlocksOf.calls n15 Az cz z bl three _ (Kd.V_reads' HVz.out).2.2 (Kd.V_reads' HVz.out).2.1 H15.out).mono ?_
  rintro e_ w15 ⟨v0_15, rfl, hv0_15, hb15⟩
  obtain ⟨Ab1, cb1, rfl, gv0_15⟩ := led_R hv0_15
  have HVb1 := Aside0.mk gv0_15
  clear gv0_15 hv0_15
  replace HVo := Aside0.mk (Kd.V_below HVo.out hb15)
  replace HVr1 := Aside0.mk (Kd.V_below HVr1.out hb15)
  replace HVy := Aside0.mk (Kd.V_below HVy.out hb15)
  replace HVf1 := Aside0.mk (Kd.V_below HVf1.out hb15)
  replace HVz := Aside0.mk (Kd.V_below HVz.out hb15)
  replace HB := Aside0.mk (below_step HB.out hb15)
  clear hb15
  go_wp2_with (fail)
  refine (spec_BlocksOf.calls n16 Az cz z bl three _ (Kd.V_reads' HVz.out).2.2 (Kd.V_reads' HVz.out).2.1 H16.out).mono ?_
  rintro e_ w16 ⟨v0_16, rfl, hv0_16, hb16⟩
  obtain ⟨Ab2, cb2, rfl, gv0_16⟩ := led_R hv0_16
  have HVb2 := Aside0.mk gv0_16
  clear gv0_16 hv0_16
  replace HVo := Aside0.mk (Kd.V_below HVo.out hb16)
  replace HVr1 := Aside0.mk (Kd.V_below HVr1.out hb16)
  replace HVy := Aside0.mk (Kd.V_below HVy.out hb16)
  replace HVf1 := Aside0.mk (Kd.V_below HVf1.out hb16)
  replace HVz := Aside0.mk (Kd.V_below HVz.out hb16)
  replace HVb1 := Aside0.mk (Kd.V_below HVb1.out hb16)
  replace HB := Aside0.mk (below_step HB.out hb16)
  clear hb16
  go_wp2_with (fail)
  refine (laws_rInts.calls n17 Ab1 cb1 bl Ab2 cb2 bl true _ (Kd.V_reads' HVb1.out).2.2 (Kd.V_reads' HVb1.out).2.1 (Kd.V_reads' HVb2.out).2.2 (Kd.V_reads' HVb2.out).2.1 H17.out).mono ?_
  rintro e_ w17 ⟨rfl, hb17⟩
  replace hb17 := hb17.below
  replace HVo := Aside0.mk (Kd.V_below HVo.out hb17)
  replace HVr1 := Aside0.mk (Kd.V_below HVr1.out hb17)
  replace HVy := Aside0.mk (Kd.V_below HVy.out hb17)
  replace HVf1 := Aside0.mk (Kd.V_below HVf1.out hb17)
  replace HVz := Aside0.mk (Kd.V_below HVz.out hb17)
  replace HVb1 := Aside0.mk (Kd.V_below HVb1.out hb17)
  replace HVb2 := Aside0.mk (Kd.V_below HVb2.out hb17)
  replace HB := Aside0.mk (below_step HB.out hb17)
  clear hb17
  clear HVb2
  go_upto_region 23 with (fail)
  go_cut [135] from 124 to 135 (fun s135 wx => s135 = .bool false ∧ w17 = wx)
  case first =>
    cases one with
    | false =>
      go_wp2_with (fail)
      go_meet
      exact ⟨rfl, rfl⟩
    | true =>
      obtain ⟨h1, h2⟩ := hone.out rfl
      obtain ⟨ad, e1, hx⟩ := led_int HVr1.out 0 h1
      cases e1
      have hl : ((rec.length : Int) == 0) = false := by rw [beq_eq_false_iff_ne]; omega
      rw [h2, show ad.add 0 = ad by simp [Addr.add]] at hx
      have h0 : (0 : Int) < (rec.length : Int) := by omega
      clear h1 h2
      go_wp2_with (fail)
      go_meet
      exact ⟨rfl, rfl⟩
  case rest =>
    obtain ⟨rfl, rfl⟩ := hcut
    clear HVr1
    clear hone
    go_wp2_with (fail)
    go_loopg [23] from_.length (fun kq v23 wr => ∃ (pre suf : List (List Int)), v23 = .int .i64 (pre.length : Int) ∧ kq = suf.length ∧ Aside0 (from_ = pre ++ suf) ∧ Aside0 (Below w17.heap.size w17 wr))
    case atStart => exact ⟨[], from_, rfl, rfl, ⟨rfl⟩, ⟨Below.refl _ _⟩⟩
    case round =>
      obtain ⟨pre, suf, rfl, rfl, HL, HW⟩ := hrel
      replace HVo := Aside0.mk (Kd.V_below HVo.out HW.out)
      replace HVy := Aside0.mk (Kd.V_below HVy.out HW.out)
      replace HVf1 := Aside0.mk (Kd.V_below HVf1.out HW.out)
      replace HVz := Aside0.mk (Kd.V_below HVz.out HW.out)
      replace HVb1 := Aside0.mk (Kd.V_below HVb1.out HW.out)
      replace HB := Aside0.mk (below_step HB.out HW.out)
      have HLF := hfl.out.1
      cases suf with
      | cons xr tr =>
        have hl : from_.length = pre.length + (tr.length + 1) := by rw [HL.out]; simp
        have hg : (pre.length : Int) < (from_.length : Int) := by omega
        have hgb : decide ((pre.length : Int) < (from_.length : Int)) = true := decide_eq_true hg
        obtain ⟨ad, Ax, cx, e1, hx, hvx⟩ := led_row HVf1.out pre.length (by omega)
        cases e1
        have hrd : from_.getD pre.length [] = xr := by rw [HL.out]; simp
        rw [hrd] at hx hvx
        have HVx := Aside0.mk hvx
        obtain ⟨ns, hs⟩ := hfrom.out xr (by rw [HL.out]; simp)
        have HSW := Aside0.mk (hs ns (Nat.le_refl _))
        clear hvx hrd hl hs
        go_wp2_with (fail)
        refine (impl_SweepOrder.calls ns Ax cx xr y true _ (Kd.V_reads' HVx.out).2.2 (Kd.V_reads' HVx.out).2.1 HSW.out).mono ?_
        rintro e_ w50 ⟨v50, rfl, hv50, hb50⟩
        obtain ⟨Aown, cown, rfl, gv50⟩ := led_R hv50
        have HVown := Aside0.mk gv50
        clear hv50 gv50
        replace HVo := Aside0.mk (Kd.V_below HVo.out hb50)
        replace HVy := Aside0.mk (Kd.V_below HVy.out hb50)
        replace HVf1 := Aside0.mk (Kd.V_below HVf1.out hb50)
        replace HVz := Aside0.mk (Kd.V_below HVz.out hb50)
        replace HVb1 := Aside0.mk (Kd.V_below HVb1.out hb50)
        replace HB := Aside0.mk (below_step HB.out hb50)
        replace HW := Aside0.mk (below_step HW.out hb50)
        clear hb50 HVx hx
        obtain ⟨ny, hy⟩ := hyy.out
        have HYY := Aside0.mk (hy ny (Nat.le_refl _))
        clear hy
        go_wp2_with (fail)
        refine (laws_rInts.calls ny Aown cown y Ay cy y true _ (Kd.V_reads' HVown.out).2.2 (Kd.V_reads' HVown.out).2.1 (Kd.V_reads' HVy.out).2.2 (Kd.V_reads' HVy.out).2.1 HYY.out).mono ?_
        rintro e_ w51 ⟨rfl, hb51⟩
        replace hb51 := hb51.below
        replace HVo := Aside0.mk (Kd.V_below HVo.out hb51)
        replace HVy := Aside0.mk (Kd.V_below HVy.out hb51)
        replace HVf1 := Aside0.mk (Kd.V_below HVf1.out hb51)
        replace HVz := Aside0.mk (Kd.V_below HVz.out hb51)
        replace HVb1 := Aside0.mk (Kd.V_below HVb1.out hb51)
        replace HVown := Aside0.mk (Kd.V_below HVown.out hb51)
        replace HB := Aside0.mk (below_step HB.out hb51)
        replace HW := Aside0.mk (below_step HW.out hb51)
        clear hb51
        go_wp2_with (fail)
        go_roundg tr.length
        case measure => simp
        case rel => exact ⟨pre ++ [xr], tr, by simp [wrap64], rfl, ⟨by rw [HL.out]; simp⟩, HW⟩
      | nil =>
        have hl : from_.length = pre.length := by rw [HL.out]; simp
        have hg : ¬ ((pre.length : Int) < (from_.length : Int)) := by omega
        have hgb : decide ((pre.length : Int) < (from_.length : Int)) = false := decide_eq_false hg
        clear hl
        clear HW
        clear HVf1
        clear HVy
        cases three with
        | false =>
          cases ok with
          | false =>
            go_wp2_with (fail)
            go_ret
            exact ⟨rfl, HB.out⟩
          | true =>
            obtain ⟨h0, hm, hst, hla, hend⟩ := hok.out rfl
            subst h0
            have HST := Aside0.mk hst
            have HLA := Aside0.mk hla
            have HEND := Aside0.mk hend
            clear hst hla hend hok
            go_wp2_with (fail)
            go_loopg [29, 30] m (fun kq v29 v30 wr4 => ∃ (i : Nat) (An : Option Addr) (cn : Nat), v29 = .slice An (nw i).length cn ∧ v30 = .int .i64 (i : Int) ∧ kq = m - i ∧ i ≤ m ∧ Aside0 (Kd.V (Kd.int .i64) 3 wr4 0 (fun _ => True) (.slice An (nw i).length cn) (nw i)) ∧ Aside0 (Below wr.heap.size wr wr4))
            case atStart => exact ⟨0, Ao, co, rfl, rfl, rfl, Nat.zero_le _, HVo, ⟨Below.refl _ _⟩⟩
            case round =>
              obtain ⟨i, An, cn, rfl, rfl, hk, hi, HVn, HW⟩ := hrel
              have HK := Aside0.mk hk
              clear hk HVo
              replace HVz := Aside0.mk (Kd.V_below HVz.out HW.out)
              replace HVb1 := Aside0.mk (Kd.V_below HVb1.out HW.out)
              replace HB := Aside0.mk (below_step HB.out HW.out)
              by_cases him : i < m
              · have hg : (i : Int) < (m : Int) := by omega
                have hgb : decide ((i : Int) < (m : Int)) = true := decide_eq_true hg
                obtain ⟨k1, h1⟩ := (HST.out i him).1
                obtain ⟨k2, h2⟩ := (HST.out i him).2
                have G1 := Aside0.mk (h1 k1 (Nat.le_refl _))
                have G2 := Aside0.mk (h2 k2 (Nat.le_refl _))
                have hw1 : wrap64 ((i : Int) + 1) = (i : Int) + 1 := wrap_of (by omega) (by omega)
                clear h1 h2
                go_wp2_with (fail)
                refine (laws_rSorted.calls k1 An cn (nw i) false _ (Kd.V_reads' HVn.out).2.2 (Kd.V_reads' HVn.out).2.1 G1.out).mono ?_
                rintro e_ w60 ⟨rfl, hb60⟩
                replace hb60 := hb60.below
                replace HVz := Aside0.mk (Kd.V_below HVz.out hb60)
                replace HVb1 := Aside0.mk (Kd.V_below HVb1.out hb60)
                replace HVn := Aside0.mk (Kd.V_below HVn.out hb60)
                replace HB := Aside0.mk (below_step HB.out hb60)
                replace HW := Aside0.mk (below_step HW.out hb60)
                clear hb60
                go_wp2_with (fail)
                refine (impl_SweepOrder.calls k2 An cn (nw i) (nw (i + 1)) true _ (Kd.V_reads' HVn.out).2.2 (Kd.V_reads' HVn.out).2.1 G2.out).mono ?_
                rintro e_ w61 ⟨v61, rfl, hv61, hb61⟩
                obtain ⟨A61, c61, rfl, gv61⟩ := led_R hv61
                have HV61 := Aside0.mk gv61
                clear gv61 hv61
                replace HVz := Aside0.mk (Kd.V_below HVz.out hb61)
                replace HVb1 := Aside0.mk (Kd.V_below HVb1.out hb61)
                replace HVn := Aside0.mk (Kd.V_below HVn.out hb61)
                replace HB := Aside0.mk (below_step HB.out hb61)
                replace HW := Aside0.mk (below_step HW.out hb61)
                clear hb61
                go_wp2_with (fail)
                go_roundg (m - (i + 1))
                case measure => have := HK.out; omega
                case rel => exact ⟨i + 1, A61, c61, rfl, by simp, rfl, by omega, HV61, HW⟩
              · have hg : ¬ ((i : Int) < (m : Int)) := by omega
                have hgb : decide ((i : Int) < (m : Int)) = false := decide_eq_false hg
                obtain rfl : i = m := by omega
                obtain ⟨k1, h1⟩ := HLA.out
                have G1 := Aside0.mk (h1 k1 (Nat.le_refl _))
                clear h1 him hi
                go_wp2_with (fail)
                refine (laws_rSorted.calls k1 An cn (nw i) true _ (Kd.V_reads' HVn.out).2.2 (Kd.V_reads' HVn.out).2.1 G1.out).mono ?_
                rintro e_ w60 ⟨rfl, hb60⟩
                replace hb60 := hb60.below
                replace HVz := Aside0.mk (Kd.V_below HVz.out hb60)
                replace HVb1 := Aside0.mk (Kd.V_below HVb1.out hb60)
                replace HVn := Aside0.mk (Kd.V_below HVn.out hb60)
                replace HB := Aside0.mk (below_step HB.out hb60)
                replace HW := Aside0.mk (below_step HW.out hb60)
                clear hb60 hg hgb
                by_cases hlt : (i : Int) < ((nw 0).length : Int)
                · have hltb : decide ((i : Int) < ((nw 0).length : Int)) = true := decide_eq_true hlt
                  go_wp2_with (fail)
                  go_ret
                  exact ⟨rfl, HB.out⟩
                · have hltb : decide ((i : Int) < ((nw 0).length : Int)) = false := decide_eq_false hlt
                  have hi0 : ((i : Int) == 0) = true := by rw [HEND.out.resolve_left hlt]; rfl
                  go_wp2_with (fail)
                  go_ret
                  exact ⟨rfl, HB.out⟩
        | true =>
          obtain ⟨hchk, hz, hbn⟩ := hbl.out rfl
          have HCHK := Aside0.mk hchk
          clear hchk
          go_wp2_with (fail)
          clear hg hgb
          go_loopg [26, 27] bl.length (fun kq v26 v27 wr2 => ∃ (pre2 suf2 : List Int) (a : Int), v26 = .int .i64 a ∧ v27 = .int .i64 (pre2.length : Int) ∧ kq = suf2.length ∧ Aside0 (bl = pre2 ++ suf2) ∧ Aside0 (0 ≤ a ∧ chkB z suf2 a = true) ∧ Aside0 (Below wr.heap.size wr wr2))
          case atStart => exact ⟨[], bl, 0, rfl, rfl, rfl, ⟨rfl⟩, ⟨Int.le_refl _, HCHK.out⟩, ⟨Below.refl _ _⟩⟩
          case round =>
            obtain ⟨pre2, suf2, a, rfl, rfl, rfl, HL2, HC2, HW⟩ := hrel
            clear HCHK
            replace HVo := Aside0.mk (Kd.V_below HVo.out HW.out)
            replace HVz := Aside0.mk (Kd.V_below HVz.out HW.out)
            replace HVb1 := Aside0.mk (Kd.V_below HVb1.out HW.out)
            replace HB := Aside0.mk (below_step HB.out HW.out)
            cases suf2 with
            | nil =>
              have hl : bl.length = pre2.length := by rw [HL2.out]; simp
              have hg : ¬ ((pre2.length : Int) < (bl.length : Int)) := by omega
              have hgb : decide ((pre2.length : Int) < (bl.length : Int)) = false := decide_eq_false hg
              have hza : a = (z.length : Int) := by have := HC2.out.2; simpa [chkB] using this
              subst hza
              have hne : ((z.length : Int) != (z.length : Int)) = false := by simp
              clear hl HW HC2 HL2
              clear HVz
              clear HVb1
              cases ok with
              | false =>
                go_wp2_with (fail)
                go_ret
                exact ⟨rfl, HB.out⟩
              | true =>
                obtain ⟨h0, hm, hst, hla, hend⟩ := hok.out rfl
                subst h0
                have HST := Aside0.mk hst
                have HLA := Aside0.mk hla
                have HEND := Aside0.mk hend
                clear hst hla hend hok
                go_wp2_with (fail)
                go_loopg [29, 30] m (fun kq v29 v30 wr4 => ∃ (i : Nat) (An : Option Addr) (cn : Nat), v29 = .slice An (nw i).length cn ∧ v30 = .int .i64 (i : Int) ∧ kq = m - i ∧ i ≤ m ∧ Aside0 (Kd.V (Kd.int .i64) 3 wr4 0 (fun _ => True) (.slice An (nw i).length cn) (nw i)) ∧ Aside0 (Below wr.heap.size wr wr4))
                case atStart => exact ⟨0, Ao, co, rfl, rfl, rfl, Nat.zero_le _, HVo, ⟨Below.refl _ _⟩⟩
                case round =>
                  obtain ⟨i, An, cn, rfl, rfl, hk, hi, HVn, HW⟩ := hrel
                  have HK := Aside0.mk hk
                  clear hk HVo
                  replace HB := Aside0.mk (below_step HB.out HW.out)
                  by_cases him : i < m
                  · have hg : (i : Int) < (m : Int) := by omega
                    have hgb : decide ((i : Int) < (m : Int)) = true := decide_eq_true hg
                    obtain ⟨k1, h1⟩ := (HST.out i him).1
                    obtain ⟨k2, h2⟩ := (HST.out i him).2
                    have G1 := Aside0.mk (h1 k1 (Nat.le_refl _))
                    have G2 := Aside0.mk (h2 k2 (Nat.le_refl _))
                    have hw1 : wrap64 ((i : Int) + 1) = (i : Int) + 1 := wrap_of (by omega) (by omega)
                    clear h1 h2
                    go_wp2_with (fail)
                    refine (laws_rSorted.calls k1 An cn (nw i) false _ (Kd.V_reads' HVn.out).2.2 (Kd.V_reads' HVn.out).2.1 G1.out).mono ?_
                    rintro e_ w60 ⟨rfl, hb60⟩
                    replace hb60 := hb60.below
                    replace HVn := Aside0.mk (Kd.V_below HVn.out hb60)
                    replace HB := Aside0.mk (below_step HB.out hb60)
                    replace HW := Aside0.mk (below_step HW.out hb60)
                    clear hb60
                    go_wp2_with (fail)
                    refine (impl_SweepOrder.calls k2 An cn (nw i) (nw (i + 1)) true _ (Kd.V_reads' HVn.out).2.2 (Kd.V_reads' HVn.out).2.1 G2.out).mono ?_
                    rintro e_ w61 ⟨v61, rfl, hv61, hb61⟩
                    obtain ⟨A61, c61, rfl, gv61⟩ := led_R hv61
                    have HV61 := Aside0.mk gv61
                    clear gv61 hv61
                    replace HVn := Aside0.mk (Kd.V_below HVn.out hb61)
                    replace HB := Aside0.mk (below_step HB.out hb61)
                    replace HW := Aside0.mk (below_step HW.out hb61)
                    clear hb61
                    go_wp2_with (fail)
                    go_roundg (m - (i + 1))
                    case measure => have := HK.out; omega
                    case rel => exact ⟨i + 1, A61, c61, rfl, by simp, rfl, by omega, HV61, HW⟩
                  · have hg : ¬ ((i : Int) < (m : Int)) := by omega
                    have hgb : decide ((i : Int) < (m : Int)) = false := decide_eq_false hg
                    obtain rfl : i = m := by omega
                    obtain ⟨k1, h1⟩ := HLA.out
                    have G1 := Aside0.mk (h1 k1 (Nat.le_refl _))
                    clear h1 him hi
                    go_wp2_with (fail)
                    refine (laws_rSorted.calls k1 An cn (nw i) true _ (Kd.V_reads' HVn.out).2.2 (Kd.V_reads' HVn.out).2.1 G1.out).mono ?_
                    rintro e_ w60 ⟨rfl, hb60⟩
                    replace hb60 := hb60.below
                    replace HVn := Aside0.mk (Kd.V_below HVn.out hb60)
                    replace HB := Aside0.mk (below_step HB.out hb60)
                    replace HW := Aside0.mk (below_step HW.out hb60)
                    clear hb60 hg hgb
                    by_cases hlt : (i : Int) < ((nw 0).length : Int)
                    · have hltb : decide ((i : Int) < ((nw 0).length : Int)) = true := decide_eq_true hlt
                      go_wp2_with (fail)
                      go_ret
                      exact ⟨rfl, HB.out⟩
                    · have hltb : decide ((i : Int) < ((nw 0).length : Int)) = false := decide_eq_false hlt
                      have hi0 : ((i : Int) == 0) = true := by rw [HEND.out.resolve_left hlt]; rfl
                      go_wp2_with (fail)
                      go_ret
                      exact ⟨rfl, HB.out⟩
            | cons b tb =>
              have hl : bl.length = pre2.length + (tb.length + 1) := by rw [HL2.out]; simp
              have hg : (pre2.length : Int) < (bl.length : Int) := by omega
              have hgb : decide ((pre2.length : Int) < (bl.length : Int)) = true := decide_eq_true hg
              have hc2 := HC2.out.2
              simp only [chkB, Bool.and_eq_true, decide_eq_true_eq] at hc2
              obtain ⟨⟨⟨hb, hab⟩, hin⟩, hrest⟩ := hc2
              have ha := HC2.out.1
              have HIN := Aside0.mk hin
              have HREST := Aside0.mk hrest
              have hrd : bl.getD pre2.length 0 = b := by rw [HL2.out]; simp
              have HRD := Aside0.mk hrd
              have hwab : wrap64 (a + b) = a + b := wrap_of (by omega) (by omega)
              have hw1 : wrap64 ((pre2.length : Int) + 1) = (pre2.length : Int) + 1 := wrap_of (by omega) (by omega)
              clear hin hrest hrd HC2 hl
              go_wp2_with (fail)
              go_loopg [28] b.toNat (fun kq v28 wr3 => ∃ (j : Nat), v28 = .int .i64 (j : Int) ∧ (a ≤ (j : Int) ∧ (j : Int) + kq = a + b) ∧ Aside0 (chkIn z a b kq (j : Int) = true) ∧ Aside0 (Below wr.heap.size wr wr3))
              case atStart => exact ⟨a.toNat, by rw [show ((a.toNat : Nat) : Int) = a by omega], by omega, ⟨by rw [show ((a.toNat : Nat) : Int) = a by omega]; exact HIN.out⟩, ⟨Below.refl _ _⟩⟩
              case round =>
                obtain ⟨j, rfl, ⟨hj1, hj2⟩, HI3, HW3⟩ := hrel
                replace HW := Aside0.mk (below_step HW.out HW3.out)
                clear HIN
                replace HVo := Aside0.mk (Kd.V_below HVo.out HW3.out)
                replace HVz := Aside0.mk (Kd.V_below HVz.out HW3.out)
                replace HVb1 := Aside0.mk (Kd.V_below HVb1.out HW3.out)
                replace HB := Aside0.mk (below_step HB.out HW3.out)
                obtain ⟨adb, eb, hxb⟩ := led_int HVb1.out pre2.length (by omega)
                cases eb
                rw [HRD.out] at hxb
                cases gk with
                | zero =>
                  have hge : ¬ ((j : Int) < a + b) := by omega
                  have hgeb : decide ((j : Int) < a + b) = false := decide_eq_false hge
                  clear hj2
                  go_wp2_with (fail)
                  go_roundg tb.length
                  case measure => simp
                  case rel => exact ⟨pre2 ++ [b], tb, a + b, rfl, by simp, rfl, ⟨by rw [HL2.out]; simp⟩, ⟨by omega, HREST.out⟩, HW⟩
                | succ n =>
                  have hlt : (j : Int) < a + b := by omega
                  have hltb : decide ((j : Int) < a + b) = true := decide_eq_true hlt
                  obtain ⟨v, hv⟩ : ∃ v, z.getD j 0 = v := ⟨_, rfl⟩
                  have hi3 := HI3.out
                  simp only [chkIn, show rd z (j : Int) = z.getD j 0 from rfl, hv, Bool.and_eq_true, Bool.not_eq_true', decide_eq_false_iff_not] at hi3
                  obtain ⟨⟨hv1, hv2⟩, hin3⟩ := hi3
                  have HIN3 := Aside0.mk hin3
                  have hv1b : decide (v ≤ a) = false := decide_eq_false hv1
                  have hv2b : decide (v > a + b) = false := decide_eq_false hv2
                  have hjz : (j : Int) < (z.length : Int) := by omega
                  obtain ⟨adz, ez, hxz⟩ := led_int HVz.out j (by omega)
                  cases ez
                  rw [hv] at hxz
                  have hwj : wrap64 ((j : Int) + 1) = (j : Int) + 1 := wrap_of (by omega) (by omega)
                  have HJ := Aside0.mk hj2
                  clear hin3 hv HI3 hj2
                  go_wp2_with (fail)
                  repeat (go_quiet (fail); try go_wp2)
                  go_roundg n
                  case measure => simp
                  case rel => exact ⟨j + 1, by simp, by have := HJ.out; omega, ⟨by simpa using HIN3.out⟩, ⟨by repeat (first | exact HW3.out | apply pw_below_drewN)⟩⟩
/-- THE ONE PURE STATEMENT of laws_FnSweeps. -/
def laws_FnSweeps.Pure : Prop := ∀ (l0 : List Int), l0.length ≤ maxLen → l0.length * 1 ≤ 140737488351232 → (∀ x ∈ l0, (Lit.int .u8 x).wf = true) → laws_rBig.f l0 = some true ∨ laws_rBig.f l0 = some false ∧ ∃ (o x rec y : List Int) (from_ : List (List Int)) (z bl : List Int) (m : Nat) (ok one two three : Bool) (nw : Nat → List Int), laws_FnSweeps.Facts l0 o x rec y from_ z bl m ok one two three nw
set_option maxHeartbeats 8000000 in
set_option maxRecDepth 100000 in
theorem laws_FnSweeps.big (A0 : Option Addr) (c0 : Nat) (l0 : List Int) (w : World) (hr0 : Kd.C (Kd.int .u8) w A0 l0.length l0) (hc0 : l0.length ≤ c0) (HBG : laws_rBig.f l0 = some true) :
    Calls Try.prog 8 #[.slice A0 l0.length c0] w fun e w' => e = .returned (.bool true) ∧ Below w.heap.size w w' := by
  have HG := Aside0.mk HBG
  clear HBG
  go_enter Try.func8, Try.ntmps8
  go_wp2_with (fail)
  refine (laws_rBig.calls A0 c0 l0 true _ hr0 hc0 HG.out).mono ?_
  rintro e_ w1 ⟨rfl, hb1⟩
  replace hb1 := hb1.below
  go_wp2_with (fail)
  go_ret
  exact ⟨rfl, hb1⟩
theorem laws_FnSweeps.walk (P : laws_FnSweeps.Pure) (a0 : Option Addr) (len0 cap0 : Nat) (z0 : List Int) (w : World) (w0 : (a0 = none ∧ len0 = 0 ∧ cap0 = 0 ∧ z0 = []) ∨ ∃ x, a0 = some x ∧ len0 ≤ cap0 ∧ cap0 ≤ maxLen ∧ z0.length = cap0 ∧ (∀ i, i < z0.length → w.cell? (x.add i) = some (.int .u8 (z0.getD i 0))) ∧ ∀ n ∈ z0, (Lit.int .u8 n).wf = true) (y0 : len0 * 1 ≤ 140737488351232) :
    Calls Try.prog 8 #[.slice a0 len0 cap0] w fun e w' => e = .returned (.bool true) ∧ Below w.heap.size w w' := by
  obtain ⟨l0, rfl, hr0, hm0, hw0, hc0⟩ := ReadsInt.ofRowC w0
  rcases P l0 hm0 y0 hw0 with h | ⟨h, o, x, rec, y, from_, z, bl, m, ok, one, two, three, nw, F⟩
  · exact laws_FnSweeps.big _ _ l0 w (Kd.C_of_reads (d := (0 : Int)) (h1 := fun _ => rfl) hr0) hc0 h
  · exact laws_FnSweeps.own o x rec y from_ z bl m ok one two three nw _ _ l0 w (Kd.C_of_reads (d := (0 : Int)) (h1 := fun _ => rfl) hr0) hc0 h F
end

end Go.Proofs.Ytlkddcabjcejdaa.MFnSweeps
