/- The functions that FnOneStack comes to, with a walk for each. Made by this session's own program (wip/tools/mk.py), in the form of the kit's print; walks named in NOTES.md were written by hand. -/
import Derived.Test.YtlkddcabjcejdaaMFnOneStackx0
import Derived.Test.YtlkddcabjcejdaaMFnOneStackx1
import Derived.Test.YtlkddcabjcejdaaMFnOneStackx3
import Derived.Test.YtlkddcabjcejdaaMFnOneStackx5
import Derived.Test.YtlkddcabjcejdaaMFnOneStackx8
import Derived.Test.YtlkddcabjcejdaaMFnOneStackx10
import Derived.Test.YtlkddcabjcejdaaMFnOneStackx11
import Derived.Test.YtlkddcabjcejdaaMFnOneStackx12
import Derived.Test.YtlkddcabjcejdaaMFnOneStackx13
import Derived.Test.YtlkddcabjcejdaaMFnOneStackx14
namespace Go.Proofs.Ytlkddcabjcejdaa.MFnOneStack
open Go.RowKit Go.Proofs.YtlkddcabjcejdaaW.PrintWords Go.Proofs.YtlkddcabjcejdaaW.PrintLast Go.Proofs.YtlkddcabjcejdaaW.PrintMore
attribute [local go_sem] max2_int min2_int max_two min_two max_three min_three max_four min_four   -- for this text's walks alone
set_option linter.unusedVariables false
set_option linter.unusedSimpArgs false

/-! ### laws_FnOneStack: function 10 -/
section
open Go.Proofs.Ytlkddcabjcejdaa.Base
theorem led_V {α : Type} {d : Kd α} {e b : Nat} {W : World} {ok : Nat → Prop} {v : Value} {xs : List α} (h : Kd.V d e W b ok v xs) : ∃ A c, v = .slice A xs.length c ∧ Kd.V d e W 0 (fun _ => True) (.slice A xs.length c) xs := by
 obtain ⟨A, c, rfl⟩ := Kd.V_slice h
 exact ⟨A, c, rfl, Kd.V_mono h (fun _ _ => trivial)⟩
theorem led_R {α : Type} {d : Kd α} {e b : Nat} {W : World} {ok : Nat → Prop} {v : Value} {xs : List α} (h : Kd.R d e W b ok v xs) : ∃ A c, v = .slice A xs.length c ∧ Kd.V d e W 0 (fun _ => True) (.slice A xs.length c) xs := led_V (Kd.R_V (base' := 0) h)
theorem led_S {α : Type} {d : Kd α} {e b : Nat} {W : World} {ok : Nat → Prop} {v : Value} {xs : List α} (h : Kd.S d e W b ok v xs) : ∃ A c, v = .slice A xs.length c ∧ Kd.V d e W 0 (fun _ => True) (.slice A xs.length c) xs := led_V (Kd.S_V (base' := 0) h)
theorem led_N {α : Type} {d : Kd α} {e b : Nat} {W : World} {ok : Nat → Prop} {v : Value} {xs : List α} (h : Kd.N d e W b ok v xs) : ∃ A c, v = .slice A xs.length c ∧ Kd.V d e W 0 (fun _ => True) (.slice A xs.length c) xs := led_V (Kd.N_V (base' := 0) h)
theorem led_row {W : World} {A : Option Addr} {c : Nat} {e : TypeId} {rows : List (List Int)} (h : Kd.V (Kd.slice 3 (Kd.int .i64)) e W 0 (fun _ => True) (.slice A rows.length c) rows) (i : Nat) (hi : i < rows.length) : ∃ ad A' c', A = some ad ∧ W.cell? (ad.add i) = some (.slice A' (rows.getD i []).length c') ∧ Kd.V (Kd.int .i64) 3 W 0 (fun _ => True) (.slice A' (rows.getD i []).length c') (rows.getD i []) := by
 obtain ⟨ad, cs, e1, _, hK, hc, _⟩ := Kd.F_get (Kd.V_F h) ([] : List Int) (i : Int) (by omega) (by omega)
 obtain ⟨A', c', rfl, hl, hf⟩ := Kd.FK_slice_open hK
 have h0 := hc 0 _ rfl
 simp only [Int.toNat_natCast] at h0 hl hf
 rw [show (Kd.slice 3 (Kd.int .i64)).sz = 1 from rfl, Nat.mul_one, Nat.add_zero] at h0
 exact ⟨ad, A', c', e1, h0, Kd.V_mk hl hf⟩
theorem led_int {W : World} {A : Option Addr} {c : Nat} {e : TypeId} {xs : List Int} (h : Kd.V (Kd.int .i64) e W 0 (fun _ => True) (.slice A xs.length c) xs) (i : Nat) (hi : i < xs.length) : ∃ ad, A = some ad ∧ W.cell? (ad.add i) = some (.int .i64 (xs.getD i 0)) := by
 obtain ⟨ad, e1, hc⟩ := Kd.at_int (Kd.V_reads' h).2.2 (i : Int) (by omega) (by omega)
 rw [Int.toNat_natCast, show rd xs (i : Int) = xs.getD i 0 from rfl] at hc
 exact ⟨ad, e1, hc⟩
theorem eq_arr3 (a b c : Int) (w : World) : (Op.equalIn 10000 34 (.agg #[.int .i64 a, .int .i64 b, .int .i64 c]) (.agg #[.int .i64 a, .int .i64 b, .int .i64 c])).run Try.prog w = .ok true w := by
 have u3 := Try.underlying3
 have a3 := Try.isAgg3
 have z3 := Try.sizeOf3
 rw [show (10000 : Nat) = 9999 + 1 from rfl, Op.equalIn]
 simp only [Sem.run_bind, run_underlying Try.underlying34, Result.andThen_ok]
 simp only [Std.Legacy.Range.forIn_eq_forIn_range', Std.Legacy.Range.size, Nat.sub_zero, Nat.add_sub_cancel, Nat.div_one, List.range'_succ, List.range'_zero, List.forIn_cons, List.forIn_nil]
 go_simp
attribute [local go_sem] eq_arr3
/-- What the calls of the law answer, and what the law asks of it. -/
structure laws_FnOneStack.Facts (l0 : List Int) (o sweep order : List Int) (sw by_ x at_ : ByteArray) (b0 b1 b2 rank n k_ m many : Int) (one can five seven eight : Bool) : Prop where
 e1 : laws_rBig.f l0 = some false
 e2 : Ev (fun k => spec_DrawSortingWord.f k l0) o
 e3 : Ev (fun k => impl_SortingWord.f k o) ((sw, (one && can)))
 e4 : Ev (fun k => spec_SortingWord.f k o) ((sw, (one && can)))
 e5 : Ev (fun k => impl_IsSortable.f k o) ((can, one))
 e6 : Ev (fun k => spec_IsSortable.f k o) ((can, one))
 e7 : Ev (fun k => impl_SweepOrder.f k o) ((sweep, one))
 e8 : Ev (fun k => spec_SweepOrder.f k o) ((sweep, one))
 e9 : Ev (fun k => laws_rInts.f k sweep sweep) true
 e10 : Ev (fun k => impl_SweepWord.f k o) ((by_, one))
 e11 : Ev (fun k => spec_SweepWord.f k o) ((by_, one))
 e12 : Ev (fun k => impl_BadTriple.f k o) (((b0, b1, b2), (one && !can)))
 e13 : Ev (fun k => spec_BadTriple.f k o) (((b0, b1, b2), (one && !can)))
 e14 : Ev (fun k => spec_DrawOrderOfWord.f k l0) x
 e15 : Ev (fun k => impl_OrderOfWord.f k x) ((order, five))
 e16 : Ev (fun k => spec_OrderOfWord.f k x) ((order, five))
 e17 : Ev (fun k => impl_IsWord.f k x) five
 e18 : Ev (fun k => laws_rInts.f k order order) true
 e19 : Ev (fun k => impl_RankOfWord.f k x) ((rank, five))
 e20 : Ev (fun k => spec_RankOfWord.f k x) ((rank, five))
 e21 : Ev (fun k => spec_DrawWordAt.f k l0) ((n, k_))
 e22 : Ev (fun k => impl_WordAt.f k n k_) ((at_, seven))
 e23 : Ev (fun k => spec_WordAt.f k n k_) ((at_, seven))
 e24 : spec_DrawCountOneStack.f l0 = some m
 e25 : Ev (fun k => impl_CountOneStack.f k m) ((many, eight))
 e26 : Ev (fun k => spec_CountOneStack.f k m) ((many, eight))
 hone : one = true → Ev (fun k => impl_RunWord.f k o by_) (sweep, true) ∧ Ev (fun k => laws_rInts.f k sweep sweep) true ∧ Ev (fun k => laws_rSorted.f k sweep) can ∧ 0 < sweep.length ∧ sweep.length ≤ 7 ∧ sweep.getD (sweep.length - 1) 0 = (sweep.length : Int)
 hbad : one = true → can = false → (0 ≤ b0 ∧ b0 < b1 ∧ b1 < b2 ∧ b2 < (o.length : Int)) ∧ rd o b2 < rd o b0 ∧ rd o b0 < rd o b1
 hfive : five = true → Ev (fun k => impl_SortingWord.f k order) (x, true) ∧ Ev (fun k => impl_WordAt.f k (wrap64 ((x.size : Int) / 2)) rank) (x, true)
 hseven : seven = true → Ev (fun k => impl_RankOfWord.f k at_) (k_, true)
set_option maxHeartbeats 16000000 in
set_option maxRecDepth 100000 in
theorem laws_FnOneStack.own (o sweep order : List Int) (sw by_ x at_ : ByteArray) (b0 b1 b2 rank n k_ m many : Int) (one can five seven eight : Bool) (A0 : Option Addr) (c0 : Nat) (l0 : List Int) (w : World) (hr0 : Kd.C (Kd.int .u8) w A0 l0.length l0) (hc0 : l0.length ≤ c0) (HBG : laws_rBig.f l0 = some false) (F : laws_FnOneStack.Facts l0 o sweep order sw by_ x at_ b0 b1 b2 rank n k_ m many one can five seven eight) :
 Calls Try.prog 10 #[.slice A0 l0.length c0] w fun e w' => e = .returned (.bool true) ∧ Below w.heap.size w w' := by
 have HVc := zk hr0
 have HC0 := zk hc0
 have H0 := zk HBG
 have HB := zk (Below.refl w.heap.size w)
 have H1 := zk F.e1
 obtain ⟨n2, f2⟩ := F.e2
 have H2 := zk (f2 n2 (Nat.le_refl _))
 clear f2
 obtain ⟨n3, f3⟩ := F.e3
 have H3 := zk (f3 n3 (Nat.le_refl _))
 clear f3
 obtain ⟨n4, f4⟩ := F.e4
 have H4 := zk (f4 n4 (Nat.le_refl _))
 clear f4
 obtain ⟨n5, f5⟩ := F.e5
 have H5 := zk (f5 n5 (Nat.le_refl _))
 clear f5
 obtain ⟨n6, f6⟩ := F.e6
 have H6 := zk (f6 n6 (Nat.le_refl _))
 clear f6
 obtain ⟨n7, f7⟩ := F.e7
 have H7 := zk (f7 n7 (Nat.le_refl _))
 clear f7
 obtain ⟨n8, f8⟩ := F.e8
 have H8 := zk (f8 n8 (Nat.le_refl _))
 clear f8
 obtain ⟨n9, f9⟩ := F.e9
 have H9 := zk (f9 n9 (Nat.le_refl _))
 clear f9
 obtain ⟨n10, f10⟩ := F.e10
 have H10 := zk (f10 n10 (Nat.le_refl _))
 clear f10
 obtain ⟨n11, f11⟩ := F.e11
 have H11 := zk (f11 n11 (Nat.le_refl _))
 clear f11
 obtain ⟨n12, f12⟩ := F.e12
 have H12 := zk (f12 n12 (Nat.le_refl _))
 clear f12
 obtain ⟨n13, f13⟩ := F.e13
 have H13 := zk (f13 n13 (Nat.le_refl _))
 clear f13
 obtain ⟨n14, f14⟩ := F.e14
 have H14 := zk (f14 n14 (Nat.le_refl _))
 clear f14
 obtain ⟨n15, f15⟩ := F.e15
 have H15 := zk (f15 n15 (Nat.le_refl _))
 clear f15
 obtain ⟨n16, f16⟩ := F.e16
 have H16 := zk (f16 n16 (Nat.le_refl _))
 clear f16
 obtain ⟨n17, f17⟩ := F.e17
 have H17 := zk (f17 n17 (Nat.le_refl _))
 clear f17
 obtain ⟨n18, f18⟩ := F.e18
 have H18 := zk (f18 n18 (Nat.le_refl _))
 clear f18
 obtain ⟨n19, f19⟩ := F.e19
 have H19 := zk (f19 n19 (Nat.le_refl _))
 clear f19
 obtain ⟨n20, f20⟩ := F.e20
 have H20 := zk (f20 n20 (Nat.le_refl _))
 clear f20
 obtain ⟨n21, f21⟩ := F.e21
 have H21 := zk (f21 n21 (Nat.le_refl _))
 clear f21
 obtain ⟨n22, f22⟩ := F.e22
 have H22 := zk (f22 n22 (Nat.le_refl _))
 clear f22
 obtain ⟨n23, f23⟩ := F.e23
 have H23 := zk (f23 n23 (Nat.le_refl _))
 clear f23
 have H24 := zk F.e24
 obtain ⟨n25, f25⟩ := F.e25
 have H25 := zk (f25 n25 (Nat.le_refl _))
 clear f25
 obtain ⟨n26, f26⟩ := F.e26
 have H26 := zk (f26 n26 (Nat.le_refl _))
 clear f26
 have hone := zk F.hone
 have hbad := zk F.hbad
 have hfive := zk F.hfive
 have hseven := zk F.hseven
 clear hr0 hc0 HBG F
 have hnc : ((!can) == can) = false := by cases can <;> rfl
 cases one with
 | true =>
  go_enter Try.func10, Try.ntmps10
  go_wp2_with (fail)
  refine (laws_rBig.calls A0 c0 l0 false _ HVc.out HC0.out H1.out).mono ?_
  rintro e_ w1 ⟨rfl, hb1⟩
  replace hb1 := hb1.below
  replace HVc := zk (Kd.C_below HVc.out hb1)
  replace HB := zk (below_step HB.out hb1)
  clear hb1
  go_wp2_with (fail)
  refine (spec_DrawSortingWord.calls n2 A0 c0 l0 o _ HVc.out HC0.out H2.out).mono ?_
  rintro e_ w2 ⟨v0_2, rfl, hv0_2, hb2⟩
  obtain ⟨Ao, co, rfl, gv0_2⟩ := led_R hv0_2
  have HVo := zk gv0_2
  clear gv0_2 hv0_2
  replace HVc := zk (Kd.C_below HVc.out hb2)
  replace HB := zk (below_step HB.out hb2)
  clear hb2
  go_wp2_with (fail)
  refine (impl_SortingWord.calls n3 Ao co o sw can _ (Kd.V_reads' HVo.out).2.2 (Kd.V_reads' HVo.out).2.1 H3.out).mono ?_
  rintro e_ w3 ⟨rfl, hb3⟩
  replace HVc := zk (Kd.C_below HVc.out hb3)
  replace HVo := zk (Kd.V_below HVo.out hb3)
  replace HB := zk (below_step HB.out hb3)
  clear hb3
  go_wp2_with (fail)
  refine (spec_SortingWord.calls n4 Ao co o sw can _ (Kd.V_reads' HVo.out).2.2 (Kd.V_reads' HVo.out).2.1 H4.out).mono ?_
  rintro e_ w4 ⟨rfl, hb4⟩
  replace HVc := zk (Kd.C_below HVc.out hb4)
  replace HVo := zk (Kd.V_below HVo.out hb4)
  replace HB := zk (below_step HB.out hb4)
  clear hb4
  go_wp2_with (fail)
  refine (impl_IsSortable.calls n5 Ao co o can true _ (Kd.V_reads' HVo.out).2.2 (Kd.V_reads' HVo.out).2.1 H5.out).mono ?_
  rintro e_ w5 ⟨rfl, hb5⟩
  replace HVc := zk (Kd.C_below HVc.out hb5)
  replace HVo := zk (Kd.V_below HVo.out hb5)
  replace HB := zk (below_step HB.out hb5)
  clear hb5
  go_wp2_with (fail)
  refine (spec_IsSortable.calls n6 Ao co o can true _ (Kd.V_reads' HVo.out).2.2 (Kd.V_reads' HVo.out).2.1 H6.out).mono ?_
  rintro e_ w6 ⟨rfl, hb6⟩
  replace HVc := zk (Kd.C_below HVc.out hb6)
  replace HVo := zk (Kd.V_below HVo.out hb6)
  replace HB := zk (below_step HB.out hb6)
  clear hb6
  go_wp2_with (fail)
  refine (impl_SweepOrder.calls n7 Ao co o sweep true _ (Kd.V_reads' HVo.out).2.2 (Kd.V_reads' HVo.out).2.1 H7.out).mono ?_
  rintro e_ w7 ⟨v0_7, rfl, hv0_7, hb7⟩
  obtain ⟨As1, cs1, rfl, gv0_7⟩ := led_R hv0_7
  have HVs1 := zk gv0_7
  clear gv0_7 hv0_7
  replace HVc := zk (Kd.C_below HVc.out hb7)
  replace HVo := zk (Kd.V_below HVo.out hb7)
  replace HB := zk (below_step HB.out hb7)
  clear hb7
  go_wp2_with (fail)
  refine (spec_SweepOrder.calls n8 Ao co o sweep true _ (Kd.V_reads' HVo.out).2.2 (Kd.V_reads' HVo.out).2.1 H8.out).mono ?_
  rintro e_ w8 ⟨v0_8, rfl, hv0_8, hb8⟩
  obtain ⟨As2, cs2, rfl, gv0_8⟩ := led_R hv0_8
  have HVs2 := zk gv0_8
  clear gv0_8 hv0_8
  replace HVc := zk (Kd.C_below HVc.out hb8)
  replace HVo := zk (Kd.V_below HVo.out hb8)
  replace HVs1 := zk (Kd.V_below HVs1.out hb8)
  replace HB := zk (below_step HB.out hb8)
  clear hb8
  go_wp2_with (fail)
  refine (laws_rInts.calls n9 As1 cs1 sweep As2 cs2 sweep true _ (Kd.V_reads' HVs1.out).2.2 (Kd.V_reads' HVs1.out).2.1 (Kd.V_reads' HVs2.out).2.2 (Kd.V_reads' HVs2.out).2.1 H9.out).mono ?_
  rintro e_ w9 ⟨rfl, hb9⟩
  replace hb9 := hb9.below
  replace HVc := zk (Kd.C_below HVc.out hb9)
  replace HVo := zk (Kd.V_below HVo.out hb9)
  replace HVs1 := zk (Kd.V_below HVs1.out hb9)
  replace HVs2 := zk (Kd.V_below HVs2.out hb9)
  replace HB := zk (below_step HB.out hb9)
  clear hb9
  clear HVs2
  go_wp2_with (fail)
  refine (impl_SweepWord.calls n10 Ao co o by_ true _ (Kd.V_reads' HVo.out).2.2 (Kd.V_reads' HVo.out).2.1 H10.out).mono ?_
  rintro e_ w10 ⟨rfl, hb10⟩
  replace HVc := zk (Kd.C_below HVc.out hb10)
  replace HVo := zk (Kd.V_below HVo.out hb10)
  replace HVs1 := zk (Kd.V_below HVs1.out hb10)
  replace HB := zk (below_step HB.out hb10)
  clear hb10
  go_wp2_with (fail)
  refine (spec_SweepWord.calls n11 Ao co o by_ true _ (Kd.V_reads' HVo.out).2.2 (Kd.V_reads' HVo.out).2.1 H11.out).mono ?_
  rintro e_ w11 ⟨rfl, hb11⟩
  replace HVc := zk (Kd.C_below HVc.out hb11)
  replace HVo := zk (Kd.V_below HVo.out hb11)
  replace HVs1 := zk (Kd.V_below HVs1.out hb11)
  replace HB := zk (below_step HB.out hb11)
  clear hb11
  go_wp2_with (fail)
  refine (impl_BadTriple.calls n12 Ao co o b0 b1 b2 ((!can)) _ (Kd.V_reads' HVo.out).2.2 (Kd.V_reads' HVo.out).2.1 H12.out).mono ?_
  rintro e_ w12 ⟨rfl, hb12⟩
  replace HVc := zk (Kd.C_below HVc.out hb12)
  replace HVo := zk (Kd.V_below HVo.out hb12)
  replace HVs1 := zk (Kd.V_below HVs1.out hb12)
  replace HB := zk (below_step HB.out hb12)
  clear hb12
  go_wp2_with (fail)
  replace HVc := zk (zv HVc.out (Obj.cells #[.int .i64 b0, .int .i64 b1, .int .i64 b2] 34))
  replace HVo := zk (Kd.V_alloc HVo.out (Obj.cells #[.int .i64 b0, .int .i64 b1, .int .i64 b2] 34))
  replace HVs1 := zk (Kd.V_alloc HVs1.out (Obj.cells #[.int .i64 b0, .int .i64 b1, .int .i64 b2] 34))
  replace HB := zk (za HB.out (Obj.cells #[.int .i64 b0, .int .i64 b1, .int .i64 b2] 34))
  have HVk1 := zk (blk_new w12 (Obj.cells #[.int .i64 b0, .int .i64 b1, .int .i64 b2] 34))
  refine (spec_BadTriple.calls n13 Ao co o b0 b1 b2 ((!can)) _ (Kd.V_reads' HVo.out).2.2 (Kd.V_reads' HVo.out).2.1 H13.out).mono ?_
  rintro e_ w13 ⟨rfl, hb13⟩
  replace HVc := zk (Kd.C_below HVc.out hb13)
  replace HVo := zk (Kd.V_below HVo.out hb13)
  replace HVs1 := zk (Kd.V_below HVs1.out hb13)
  replace HVk1 := zk (blk_below HVk1.out hb13)
  replace HB := zk (below_step HB.out hb13)
  clear hb13
  have x0 := blk_cell (blk_alloc HVk1.out (Obj.cells #[.int .i64 b0, .int .i64 b1, .int .i64 b2] 34)) 0
  have x1 := blk_cell (blk_alloc HVk1.out (Obj.cells #[.int .i64 b0, .int .i64 b1, .int .i64 b2] 34)) 1
  have x2 := blk_cell (blk_alloc HVk1.out (Obj.cells #[.int .i64 b0, .int .i64 b1, .int .i64 b2] 34)) 2
  have y0 := blk_cell (blk_new w13 (Obj.cells #[.int .i64 b0, .int .i64 b1, .int .i64 b2] 34)) 0
  have y1 := blk_cell (blk_new w13 (Obj.cells #[.int .i64 b0, .int .i64 b1, .int .i64 b2] 34)) 1
  have y2 := blk_cell (blk_new w13 (Obj.cells #[.int .i64 b0, .int .i64 b1, .int .i64 b2] 34)) 2
  replace HVc := zk (zv HVc.out (Obj.cells #[.int .i64 b0, .int .i64 b1, .int .i64 b2] 34))
  replace HVo := zk (Kd.V_alloc HVo.out (Obj.cells #[.int .i64 b0, .int .i64 b1, .int .i64 b2] 34))
  replace HVs1 := zk (Kd.V_alloc HVs1.out (Obj.cells #[.int .i64 b0, .int .i64 b1, .int .i64 b2] 34))
  replace HVk1 := zk (blk_alloc HVk1.out (Obj.cells #[.int .i64 b0, .int .i64 b1, .int .i64 b2] 34))
  replace HB := zk (za HB.out (Obj.cells #[.int .i64 b0, .int .i64 b1, .int .i64 b2] 34))
  have HVk2 := zk (blk_new w13 (Obj.cells #[.int .i64 b0, .int .i64 b1, .int .i64 b2] 34))
  go_wp2_with (fail)
  refine (spec_DrawOrderOfWord.calls n14 A0 c0 l0 x _ HVc.out HC0.out H14.out).mono ?_
  rintro e_ w14 ⟨rfl, hb14⟩
  replace HVc := zk (Kd.C_below HVc.out hb14)
  replace HVo := zk (Kd.V_below HVo.out hb14)
  replace HVs1 := zk (Kd.V_below HVs1.out hb14)
  replace HVk1 := zk (blk_below HVk1.out hb14)
  replace HVk2 := zk (blk_below HVk2.out hb14)
  replace HB := zk (below_step HB.out hb14)
  clear hb14
  clear x0 x1 x2 y0 y1 y2
  clear HVk2
  go_wp2_with (fail)
  refine (impl_OrderOfWord.calls n15 x order five _ H15.out).mono ?_
  rintro e_ w15 ⟨v0_15, rfl, hv0_15, hb15⟩
  obtain ⟨Aq1, cq1, rfl, gv0_15⟩ := led_R hv0_15
  have HVq1 := zk gv0_15
  clear gv0_15 hv0_15
  replace HVc := zk (Kd.C_below HVc.out hb15)
  replace HVo := zk (Kd.V_below HVo.out hb15)
  replace HVs1 := zk (Kd.V_below HVs1.out hb15)
  replace HVk1 := zk (blk_below HVk1.out hb15)
  replace HB := zk (below_step HB.out hb15)
  clear hb15
  go_wp2_with (fail)
  refine (spec_OrderOfWord.calls n16 x order five _ H16.out).mono ?_
  rintro e_ w16 ⟨v0_16, rfl, hv0_16, hb16⟩
  obtain ⟨Aq2, cq2, rfl, gv0_16⟩ := led_R hv0_16
  have HVq2 := zk gv0_16
  clear gv0_16 hv0_16
  replace HVc := zk (Kd.C_below HVc.out hb16)
  replace HVo := zk (Kd.V_below HVo.out hb16)
  replace HVs1 := zk (Kd.V_below HVs1.out hb16)
  replace HVk1 := zk (blk_below HVk1.out hb16)
  replace HVq1 := zk (Kd.V_below HVq1.out hb16)
  replace HB := zk (below_step HB.out hb16)
  clear hb16
  go_wp2_with (fail)
  refine (impl_IsWord.calls n17 x five _ H17.out).mono ?_
  rintro e_ w17 ⟨rfl, hb17⟩
  replace HVc := zk (Kd.C_below HVc.out hb17)
  replace HVo := zk (Kd.V_below HVo.out hb17)
  replace HVs1 := zk (Kd.V_below HVs1.out hb17)
  replace HVk1 := zk (blk_below HVk1.out hb17)
  replace HVq1 := zk (Kd.V_below HVq1.out hb17)
  replace HVq2 := zk (Kd.V_below HVq2.out hb17)
  replace HB := zk (below_step HB.out hb17)
  clear hb17
  go_wp2_with (fail)
  refine (laws_rInts.calls n18 Aq1 cq1 order Aq2 cq2 order true _ (Kd.V_reads' HVq1.out).2.2 (Kd.V_reads' HVq1.out).2.1 (Kd.V_reads' HVq2.out).2.2 (Kd.V_reads' HVq2.out).2.1 H18.out).mono ?_
  rintro e_ w18 ⟨rfl, hb18⟩
  replace hb18 := hb18.below
  replace HVc := zk (Kd.C_below HVc.out hb18)
  replace HVo := zk (Kd.V_below HVo.out hb18)
  replace HVs1 := zk (Kd.V_below HVs1.out hb18)
  replace HVk1 := zk (blk_below HVk1.out hb18)
  replace HVq1 := zk (Kd.V_below HVq1.out hb18)
  replace HVq2 := zk (Kd.V_below HVq2.out hb18)
  replace HB := zk (below_step HB.out hb18)
  clear hb18
  clear HVq2
  go_wp2_with (fail)
  refine (impl_RankOfWord.calls n19 x rank five _ H19.out).mono ?_
  rintro e_ w19 ⟨rfl, hb19⟩
  replace HVc := zk (Kd.C_below HVc.out hb19)
  replace HVo := zk (Kd.V_below HVo.out hb19)
  replace HVs1 := zk (Kd.V_below HVs1.out hb19)
  replace HVk1 := zk (blk_below HVk1.out hb19)
  replace HVq1 := zk (Kd.V_below HVq1.out hb19)
  replace HB := zk (below_step HB.out hb19)
  clear hb19
  go_wp2_with (fail)
  refine (spec_RankOfWord.calls n20 x rank five _ H20.out).mono ?_
  rintro e_ w20 ⟨rfl, hb20⟩
  replace HVc := zk (Kd.C_below HVc.out hb20)
  replace HVo := zk (Kd.V_below HVo.out hb20)
  replace HVs1 := zk (Kd.V_below HVs1.out hb20)
  replace HVk1 := zk (blk_below HVk1.out hb20)
  replace HVq1 := zk (Kd.V_below HVq1.out hb20)
  replace HB := zk (below_step HB.out hb20)
  clear hb20
  go_wp2_with (fail)
  refine (spec_DrawWordAt.calls n21 A0 c0 l0 n k_ _ HVc.out HC0.out H21.out).mono ?_
  rintro e_ w21 ⟨rfl, hb21⟩
  replace HVc := zk (Kd.C_below HVc.out hb21)
  replace HVo := zk (Kd.V_below HVo.out hb21)
  replace HVs1 := zk (Kd.V_below HVs1.out hb21)
  replace HVk1 := zk (blk_below HVk1.out hb21)
  replace HVq1 := zk (Kd.V_below HVq1.out hb21)
  replace HB := zk (below_step HB.out hb21)
  clear hb21
  go_wp2_with (fail)
  refine (impl_WordAt.calls n22 n k_ at_ seven _ H22.out).mono ?_
  rintro e_ w22 ⟨rfl, hb22⟩
  replace HVc := zk (Kd.C_below HVc.out hb22)
  replace HVo := zk (Kd.V_below HVo.out hb22)
  replace HVs1 := zk (Kd.V_below HVs1.out hb22)
  replace HVk1 := zk (blk_below HVk1.out hb22)
  replace HVq1 := zk (Kd.V_below HVq1.out hb22)
  replace HB := zk (below_step HB.out hb22)
  clear hb22
  go_wp2_with (fail)
  refine (spec_WordAt.calls n23 n k_ at_ seven _ H23.out).mono ?_
  rintro e_ w23 ⟨rfl, hb23⟩
  replace HVc := zk (Kd.C_below HVc.out hb23)
  replace HVo := zk (Kd.V_below HVo.out hb23)
  replace HVs1 := zk (Kd.V_below HVs1.out hb23)
  replace HVk1 := zk (blk_below HVk1.out hb23)
  replace HVq1 := zk (Kd.V_below HVq1.out hb23)
  replace HB := zk (below_step HB.out hb23)
  clear hb23
  go_wp2_with (fail)
  refine (spec_DrawCountOneStack.calls A0 c0 l0 m _ HVc.out HC0.out H24.out).mono ?_
  rintro e_ w24 ⟨rfl, hb24⟩
  replace HVc := zk (Kd.C_below HVc.out hb24)
  replace HVo := zk (Kd.V_below HVo.out hb24)
  replace HVs1 := zk (Kd.V_below HVs1.out hb24)
  replace HVk1 := zk (blk_below HVk1.out hb24)
  replace HVq1 := zk (Kd.V_below HVq1.out hb24)
  replace HB := zk (below_step HB.out hb24)
  clear hb24
  clear HVc
  go_wp2_with (fail)
  refine (impl_CountOneStack.calls n25 m many eight _ H25.out).mono ?_
  rintro e_ w25 ⟨rfl, hb25⟩
  replace hb25 := hb25.below
  replace HVo := zk (Kd.V_below HVo.out hb25)
  replace HVs1 := zk (Kd.V_below HVs1.out hb25)
  replace HVk1 := zk (blk_below HVk1.out hb25)
  replace HVq1 := zk (Kd.V_below HVq1.out hb25)
  replace HB := zk (below_step HB.out hb25)
  clear hb25
  go_wp2_with (fail)
  refine (spec_CountOneStack.calls n26 m many eight _ H26.out).mono ?_
  rintro e_ w26 ⟨rfl, hb26⟩
  replace HVo := zk (Kd.V_below HVo.out hb26)
  replace HVs1 := zk (Kd.V_below HVs1.out hb26)
  replace HVk1 := zk (blk_below HVk1.out hb26)
  replace HVq1 := zk (Kd.V_below HVq1.out hb26)
  replace HB := zk (below_step HB.out hb26)
  clear hb26
  cases five with
  | false =>
   clear hfive
   cases seven with
   | false =>
    clear hseven
    obtain ⟨h1, h2, h3, h4, h5, h6⟩ := hone.out (by trivial)
    obtain ⟨k1, fk1⟩ := h1
    have X1 := zk (fk1 k1 (Nat.le_refl _))
    clear fk1
    obtain ⟨k2, fk2⟩ := h2
    have X2 := zk (fk2 k2 (Nat.le_refl _))
    clear fk2
    obtain ⟨k3, fk3⟩ := h3
    have X3 := zk (fk3 k3 (Nat.le_refl _))
    clear fk3
    have H6 := zk h6
    clear h6 hone
    go_wp2_with (fail)
    refine (impl_RunWord.calls k1 Ao co o by_ sweep true _ (Kd.V_reads' HVo.out).2.2 (Kd.V_reads' HVo.out).2.1 X1.out).mono ?_
    rintro e_ w27 ⟨v0_27, rfl, hv0_27, hb27⟩
    obtain ⟨Az1, cz1, rfl, gv0_27⟩ := led_R hv0_27
    have HVz1 := zk gv0_27
    clear gv0_27 hv0_27
    replace HVo := zk (Kd.V_below HVo.out hb27)
    replace HVs1 := zk (Kd.V_below HVs1.out hb27)
    replace HVk1 := zk (blk_below HVk1.out hb27)
    replace HVq1 := zk (Kd.V_below HVq1.out hb27)
    replace HB := zk (below_step HB.out hb27)
    clear hb27
    go_wp2_with (fail)
    refine (laws_rInts.calls k2 Az1 cz1 sweep As1 cs1 sweep true _ (Kd.V_reads' HVz1.out).2.2 (Kd.V_reads' HVz1.out).2.1 (Kd.V_reads' HVs1.out).2.2 (Kd.V_reads' HVs1.out).2.1 X2.out).mono ?_
    rintro e_ w28 ⟨rfl, hb28⟩
    replace hb28 := hb28.below
    replace HVo := zk (Kd.V_below HVo.out hb28)
    replace HVs1 := zk (Kd.V_below HVs1.out hb28)
    replace HVk1 := zk (blk_below HVk1.out hb28)
    replace HVq1 := zk (Kd.V_below HVq1.out hb28)
    replace HVz1 := zk (Kd.V_below HVz1.out hb28)
    replace HB := zk (below_step HB.out hb28)
    clear hb28
    go_wp2_with (fail)
    refine (laws_rSorted.calls k3 As1 cs1 sweep can _ (Kd.V_reads' HVs1.out).2.2 (Kd.V_reads' HVs1.out).2.1 X3.out).mono ?_
    rintro e_ w29 ⟨rfl, hb29⟩
    replace hb29 := hb29.below
    replace HVo := zk (Kd.V_below HVo.out hb29)
    replace HVs1 := zk (Kd.V_below HVs1.out hb29)
    replace HVk1 := zk (blk_below HVk1.out hb29)
    replace HVq1 := zk (Kd.V_below HVq1.out hb29)
    replace HVz1 := zk (Kd.V_below HVz1.out hb29)
    replace HB := zk (below_step HB.out hb29)
    clear hb29
    obtain ⟨j, hj⟩ : ∃ j : Nat, (sweep.length : Int) - 1 = (j : Int) := ⟨sweep.length - 1, by omega⟩
    have hj2 : sweep.length - 1 = j := by omega
    have hw1 : wrap64 ((sweep.length : Int) - 1) = (j : Int) := by rw [wrap_of (by omega) (by omega)]; omega
    obtain ⟨ad, e1, hx⟩ := led_int HVs1.out j (by omega)
    cases e1
    have hv := H6.out
    rw [hj2] at hv
    rw [hv] at hx
    have hjl : (j : Int) < (sweep.length : Int) := by omega
    have hj0 : (0 : Int) ≤ (j : Int) := by omega
    clear hv hj hj2 h4 h5
    go_wp2_with (fail)
    clear hw1 hx hjl hj0
    cases can with
    | true =>
     repeat (go_quiet (fail); try go_wp2)
     go_ret
     exact ⟨rfl, by repeat (first | exact HB.out | apply zd)⟩
    | false =>
     obtain ⟨⟨p0, p1, p2, p3⟩, r1, r2⟩ := hbad.out (by trivial) (by trivial)
     obtain ⟨i0, rfl⟩ : ∃ i : Nat, b0 = (i : Int) := ⟨b0.toNat, by omega⟩
     obtain ⟨i1, rfl⟩ : ∃ i : Nat, b1 = (i : Int) := ⟨b1.toNat, by omega⟩
     obtain ⟨i2, rfl⟩ : ∃ i : Nat, b2 = (i : Int) := ⟨b2.toNat, by omega⟩
     have z0 := blk_cell HVk1.out 0
     have z1 := blk_cell HVk1.out 1
     have z2 := blk_cell HVk1.out 2
     obtain ⟨ad0, ea0, ha0⟩ := led_int HVo.out i0 (by omega)
     cases ea0
     have hb0 : (i0 : Int) < (o.length : Int) := by omega
     obtain ⟨ad1, ea1, ha1⟩ := led_int HVo.out i1 (by omega)
     cases ea1
     have hb1 : (i1 : Int) < (o.length : Int) := by omega
     obtain ⟨ad2, ea2, ha2⟩ := led_int HVo.out i2 (by omega)
     cases ea2
     have hb2 : (i2 : Int) < (o.length : Int) := by omega
     have c1 : decide ((i0 : Int) < (i1 : Int)) = true := decide_eq_true p1
     have c2 : decide ((i1 : Int) < (i2 : Int)) = true := decide_eq_true p2
     have d1 : decide (i0 < i1) = true := decide_eq_true (by omega)
     have d2 : decide (i1 < i2) = true := decide_eq_true (by omega)
     have c3 : decide (o.getD i2 0 < o.getD i0 0) = true := decide_eq_true r1
     have c4 : decide (o.getD i0 0 < o.getD i1 0) = true := decide_eq_true r2
     obtain ⟨v0, hv0⟩ : ∃ v, o.getD i0 0 = v := ⟨_, rfl⟩
     obtain ⟨v1, hv1⟩ : ∃ v, o.getD i1 0 = v := ⟨_, rfl⟩
     obtain ⟨v2, hv2⟩ : ∃ v, o.getD i2 0 = v := ⟨_, rfl⟩
     rw [hv0] at ha0 c3 c4
     rw [hv1] at ha1 c4
     rw [hv2] at ha2 c3
     clear r1 r2 hv0 hv1 hv2 p0 p1 p2 p3
     repeat (go_quiet (fail); try go_wp2)
     go_ret
     exact ⟨rfl, by repeat (first | exact HB.out | apply zd)⟩
   | true =>
    obtain ⟨kv, fkv⟩ := hseven.out rfl
    have XV := zk (fkv kv (Nat.le_refl _))
    clear fkv
    go_wp2_with (fail)
    refine (impl_RankOfWord.calls kv at_ k_ true _ XV.out).mono ?_
    rintro e_ w27 ⟨rfl, hb27⟩
    replace HVo := zk (Kd.V_below HVo.out hb27)
    replace HVs1 := zk (Kd.V_below HVs1.out hb27)
    replace HVk1 := zk (blk_below HVk1.out hb27)
    replace HVq1 := zk (Kd.V_below HVq1.out hb27)
    replace HB := zk (below_step HB.out hb27)
    clear hb27
    clear XV hseven
    obtain ⟨h1, h2, h3, h4, h5, h6⟩ := hone.out (by trivial)
    obtain ⟨k1, fk1⟩ := h1
    have X1 := zk (fk1 k1 (Nat.le_refl _))
    clear fk1
    obtain ⟨k2, fk2⟩ := h2
    have X2 := zk (fk2 k2 (Nat.le_refl _))
    clear fk2
    obtain ⟨k3, fk3⟩ := h3
    have X3 := zk (fk3 k3 (Nat.le_refl _))
    clear fk3
    have H6 := zk h6
    clear h6 hone
    go_wp2_with (fail)
    refine (impl_RunWord.calls k1 Ao co o by_ sweep true _ (Kd.V_reads' HVo.out).2.2 (Kd.V_reads' HVo.out).2.1 X1.out).mono ?_
    rintro e_ w28 ⟨v0_28, rfl, hv0_28, hb28⟩
    obtain ⟨Az1, cz1, rfl, gv0_28⟩ := led_R hv0_28
    have HVz1 := zk gv0_28
    clear gv0_28 hv0_28
    replace HVo := zk (Kd.V_below HVo.out hb28)
    replace HVs1 := zk (Kd.V_below HVs1.out hb28)
    replace HVk1 := zk (blk_below HVk1.out hb28)
    replace HVq1 := zk (Kd.V_below HVq1.out hb28)
    replace HB := zk (below_step HB.out hb28)
    clear hb28
    go_wp2_with (fail)
    refine (laws_rInts.calls k2 Az1 cz1 sweep As1 cs1 sweep true _ (Kd.V_reads' HVz1.out).2.2 (Kd.V_reads' HVz1.out).2.1 (Kd.V_reads' HVs1.out).2.2 (Kd.V_reads' HVs1.out).2.1 X2.out).mono ?_
    rintro e_ w29 ⟨rfl, hb29⟩
    replace hb29 := hb29.below
    replace HVo := zk (Kd.V_below HVo.out hb29)
    replace HVs1 := zk (Kd.V_below HVs1.out hb29)
    replace HVk1 := zk (blk_below HVk1.out hb29)
    replace HVq1 := zk (Kd.V_below HVq1.out hb29)
    replace HVz1 := zk (Kd.V_below HVz1.out hb29)
    replace HB := zk (below_step HB.out hb29)
    clear hb29
    go_wp2_with (fail)
    refine (laws_rSorted.calls k3 As1 cs1 sweep can _ (Kd.V_reads' HVs1.out).2.2 (Kd.V_reads' HVs1.out).2.1 X3.out).mono ?_
    rintro e_ w30 ⟨rfl, hb30⟩
    replace hb30 := hb30.below
    replace HVo := zk (Kd.V_below HVo.out hb30)
    replace HVs1 := zk (Kd.V_below HVs1.out hb30)
    replace HVk1 := zk (blk_below HVk1.out hb30)
    replace HVq1 := zk (Kd.V_below HVq1.out hb30)
    replace HVz1 := zk (Kd.V_below HVz1.out hb30)
    replace HB := zk (below_step HB.out hb30)
    clear hb30
    obtain ⟨j, hj⟩ : ∃ j : Nat, (sweep.length : Int) - 1 = (j : Int) := ⟨sweep.length - 1, by omega⟩
    have hj2 : sweep.length - 1 = j := by omega
    have hw1 : wrap64 ((sweep.length : Int) - 1) = (j : Int) := by rw [wrap_of (by omega) (by omega)]; omega
    obtain ⟨ad, e1, hx⟩ := led_int HVs1.out j (by omega)
    cases e1
    have hv := H6.out
    rw [hj2] at hv
    rw [hv] at hx
    have hjl : (j : Int) < (sweep.length : Int) := by omega
    have hj0 : (0 : Int) ≤ (j : Int) := by omega
    clear hv hj hj2 h4 h5
    go_wp2_with (fail)
    clear hw1 hx hjl hj0
    cases can with
    | true =>
     repeat (go_quiet (fail); try go_wp2)
     go_ret
     exact ⟨rfl, by repeat (first | exact HB.out | apply zd)⟩
    | false =>
     obtain ⟨⟨p0, p1, p2, p3⟩, r1, r2⟩ := hbad.out (by trivial) (by trivial)
     obtain ⟨i0, rfl⟩ : ∃ i : Nat, b0 = (i : Int) := ⟨b0.toNat, by omega⟩
     obtain ⟨i1, rfl⟩ : ∃ i : Nat, b1 = (i : Int) := ⟨b1.toNat, by omega⟩
     obtain ⟨i2, rfl⟩ : ∃ i : Nat, b2 = (i : Int) := ⟨b2.toNat, by omega⟩
     have z0 := blk_cell HVk1.out 0
     have z1 := blk_cell HVk1.out 1
     have z2 := blk_cell HVk1.out 2
     obtain ⟨ad0, ea0, ha0⟩ := led_int HVo.out i0 (by omega)
     cases ea0
     have hb0 : (i0 : Int) < (o.length : Int) := by omega
     obtain ⟨ad1, ea1, ha1⟩ := led_int HVo.out i1 (by omega)
     cases ea1
     have hb1 : (i1 : Int) < (o.length : Int) := by omega
     obtain ⟨ad2, ea2, ha2⟩ := led_int HVo.out i2 (by omega)
     cases ea2
     have hb2 : (i2 : Int) < (o.length : Int) := by omega
     have c1 : decide ((i0 : Int) < (i1 : Int)) = true := decide_eq_true p1
     have c2 : decide ((i1 : Int) < (i2 : Int)) = true := decide_eq_true p2
     have d1 : decide (i0 < i1) = true := decide_eq_true (by omega)
     have d2 : decide (i1 < i2) = true := decide_eq_true (by omega)
     have c3 : decide (o.getD i2 0 < o.getD i0 0) = true := decide_eq_true r1
     have c4 : decide (o.getD i0 0 < o.getD i1 0) = true := decide_eq_true r2
     obtain ⟨v0, hv0⟩ : ∃ v, o.getD i0 0 = v := ⟨_, rfl⟩
     obtain ⟨v1, hv1⟩ : ∃ v, o.getD i1 0 = v := ⟨_, rfl⟩
     obtain ⟨v2, hv2⟩ : ∃ v, o.getD i2 0 = v := ⟨_, rfl⟩
     rw [hv0] at ha0 c3 c4
     rw [hv1] at ha1 c4
     rw [hv2] at ha2 c3
     clear r1 r2 hv0 hv1 hv2 p0 p1 p2 p3
     repeat (go_quiet (fail); try go_wp2)
     go_ret
     exact ⟨rfl, by repeat (first | exact HB.out | apply zd)⟩
  | true =>
   obtain ⟨hf1, hf2⟩ := hfive.out rfl
   obtain ⟨kf, fkf⟩ := hf1
   have XF := zk (fkf kf (Nat.le_refl _))
   clear fkf
   obtain ⟨kg, fkg⟩ := hf2
   have XG := zk (fkg kg (Nat.le_refl _))
   clear fkg
   go_wp2_with (fail)
   refine (impl_SortingWord.calls kf Aq1 cq1 order x true _ (Kd.V_reads' HVq1.out).2.2 (Kd.V_reads' HVq1.out).2.1 XF.out).mono ?_
   rintro e_ w27 ⟨rfl, hb27⟩
   replace HVo := zk (Kd.V_below HVo.out hb27)
   replace HVs1 := zk (Kd.V_below HVs1.out hb27)
   replace HVk1 := zk (blk_below HVk1.out hb27)
   replace HVq1 := zk (Kd.V_below HVq1.out hb27)
   replace HB := zk (below_step HB.out hb27)
   clear hb27
   go_wp2_with (fail)
   refine (impl_WordAt.calls kg ((wrap64 ((x.size : Int) / 2))) rank x true _ XG.out).mono ?_
   rintro e_ w28 ⟨rfl, hb28⟩
   replace HVo := zk (Kd.V_below HVo.out hb28)
   replace HVs1 := zk (Kd.V_below HVs1.out hb28)
   replace HVk1 := zk (blk_below HVk1.out hb28)
   replace HVq1 := zk (Kd.V_below HVq1.out hb28)
   replace HB := zk (below_step HB.out hb28)
   clear hb28
   clear XF XG hfive
   cases seven with
   | false =>
    clear hseven
    obtain ⟨h1, h2, h3, h4, h5, h6⟩ := hone.out (by trivial)
    obtain ⟨k1, fk1⟩ := h1
    have X1 := zk (fk1 k1 (Nat.le_refl _))
    clear fk1
    obtain ⟨k2, fk2⟩ := h2
    have X2 := zk (fk2 k2 (Nat.le_refl _))
    clear fk2
    obtain ⟨k3, fk3⟩ := h3
    have X3 := zk (fk3 k3 (Nat.le_refl _))
    clear fk3
    have H6 := zk h6
    clear h6 hone
    go_wp2_with (fail)
    refine (impl_RunWord.calls k1 Ao co o by_ sweep true _ (Kd.V_reads' HVo.out).2.2 (Kd.V_reads' HVo.out).2.1 X1.out).mono ?_
    rintro e_ w29 ⟨v0_29, rfl, hv0_29, hb29⟩
    obtain ⟨Az1, cz1, rfl, gv0_29⟩ := led_R hv0_29
    have HVz1 := zk gv0_29
    clear gv0_29 hv0_29
    replace HVo := zk (Kd.V_below HVo.out hb29)
    replace HVs1 := zk (Kd.V_below HVs1.out hb29)
    replace HVk1 := zk (blk_below HVk1.out hb29)
    replace HVq1 := zk (Kd.V_below HVq1.out hb29)
    replace HB := zk (below_step HB.out hb29)
    clear hb29
    go_wp2_with (fail)
    refine (laws_rInts.calls k2 Az1 cz1 sweep As1 cs1 sweep true _ (Kd.V_reads' HVz1.out).2.2 (Kd.V_reads' HVz1.out).2.1 (Kd.V_reads' HVs1.out).2.2 (Kd.V_reads' HVs1.out).2.1 X2.out).mono ?_
    rintro e_ w30 ⟨rfl, hb30⟩
    replace hb30 := hb30.below
    replace HVo := zk (Kd.V_below HVo.out hb30)
    replace HVs1 := zk (Kd.V_below HVs1.out hb30)
    replace HVk1 := zk (blk_below HVk1.out hb30)
    replace HVq1 := zk (Kd.V_below HVq1.out hb30)
    replace HVz1 := zk (Kd.V_below HVz1.out hb30)
    replace HB := zk (below_step HB.out hb30)
    clear hb30
    go_wp2_with (fail)
    refine (laws_rSorted.calls k3 As1 cs1 sweep can _ (Kd.V_reads' HVs1.out).2.2 (Kd.V_reads' HVs1.out).2.1 X3.out).mono ?_
    rintro e_ w31 ⟨rfl, hb31⟩
    replace hb31 := hb31.below
    replace HVo := zk (Kd.V_below HVo.out hb31)
    replace HVs1 := zk (Kd.V_below HVs1.out hb31)
    replace HVk1 := zk (blk_below HVk1.out hb31)
    replace HVq1 := zk (Kd.V_below HVq1.out hb31)
    replace HVz1 := zk (Kd.V_below HVz1.out hb31)
    replace HB := zk (below_step HB.out hb31)
    clear hb31
    obtain ⟨j, hj⟩ : ∃ j : Nat, (sweep.length : Int) - 1 = (j : Int) := ⟨sweep.length - 1, by omega⟩
    have hj2 : sweep.length - 1 = j := by omega
    have hw1 : wrap64 ((sweep.length : Int) - 1) = (j : Int) := by rw [wrap_of (by omega) (by omega)]; omega
    obtain ⟨ad, e1, hx⟩ := led_int HVs1.out j (by omega)
    cases e1
    have hv := H6.out
    rw [hj2] at hv
    rw [hv] at hx
    have hjl : (j : Int) < (sweep.length : Int) := by omega
    have hj0 : (0 : Int) ≤ (j : Int) := by omega
    clear hv hj hj2 h4 h5
    go_wp2_with (fail)
    clear hw1 hx hjl hj0
    cases can with
    | true =>
     repeat (go_quiet (fail); try go_wp2)
     go_ret
     exact ⟨rfl, by repeat (first | exact HB.out | apply zd)⟩
    | false =>
     obtain ⟨⟨p0, p1, p2, p3⟩, r1, r2⟩ := hbad.out (by trivial) (by trivial)
     obtain ⟨i0, rfl⟩ : ∃ i : Nat, b0 = (i : Int) := ⟨b0.toNat, by omega⟩
     obtain ⟨i1, rfl⟩ : ∃ i : Nat, b1 = (i : Int) := ⟨b1.toNat, by omega⟩
     obtain ⟨i2, rfl⟩ : ∃ i : Nat, b2 = (i : Int) := ⟨b2.toNat, by omega⟩
     have z0 := blk_cell HVk1.out 0
     have z1 := blk_cell HVk1.out 1
     have z2 := blk_cell HVk1.out 2
     obtain ⟨ad0, ea0, ha0⟩ := led_int HVo.out i0 (by omega)
     cases ea0
     have hb0 : (i0 : Int) < (o.length : Int) := by omega
     obtain ⟨ad1, ea1, ha1⟩ := led_int HVo.out i1 (by omega)
     cases ea1
     have hb1 : (i1 : Int) < (o.length : Int) := by omega
     obtain ⟨ad2, ea2, ha2⟩ := led_int HVo.out i2 (by omega)
     cases ea2
     have hb2 : (i2 : Int) < (o.length : Int) := by omega
     have c1 : decide ((i0 : Int) < (i1 : Int)) = true := decide_eq_true p1
     have c2 : decide ((i1 : Int) < (i2 : Int)) = true := decide_eq_true p2
     have d1 : decide (i0 < i1) = true := decide_eq_true (by omega)
     have d2 : decide (i1 < i2) = true := decide_eq_true (by omega)
     have c3 : decide (o.getD i2 0 < o.getD i0 0) = true := decide_eq_true r1
     have c4 : decide (o.getD i0 0 < o.getD i1 0) = true := decide_eq_true r2
     obtain ⟨v0, hv0⟩ : ∃ v, o.getD i0 0 = v := ⟨_, rfl⟩
     obtain ⟨v1, hv1⟩ : ∃ v, o.getD i1 0 = v := ⟨_, rfl⟩
     obtain ⟨v2, hv2⟩ : ∃ v, o.getD i2 0 = v := ⟨_, rfl⟩
     rw [hv0] at ha0 c3 c4
     rw [hv1] at ha1 c4
     rw [hv2] at ha2 c3
     clear r1 r2 hv0 hv1 hv2 p0 p1 p2 p3
     repeat (go_quiet (fail); try go_wp2)
     go_ret
     exact ⟨rfl, by repeat (first | exact HB.out | apply zd)⟩
   | true =>
    obtain ⟨kv, fkv⟩ := hseven.out rfl
    have XV := zk (fkv kv (Nat.le_refl _))
    clear fkv
    go_wp2_with (fail)
    refine (impl_RankOfWord.calls kv at_ k_ true _ XV.out).mono ?_
    rintro e_ w29 ⟨rfl, hb29⟩
    replace HVo := zk (Kd.V_below HVo.out hb29)
    replace HVs1 := zk (Kd.V_below HVs1.out hb29)
    replace HVk1 := zk (blk_below HVk1.out hb29)
    replace HVq1 := zk (Kd.V_below HVq1.out hb29)
    replace HB := zk (below_step HB.out hb29)
    clear hb29
    clear XV hseven
    obtain ⟨h1, h2, h3, h4, h5, h6⟩ := hone.out (by trivial)
    obtain ⟨k1, fk1⟩ := h1
    have X1 := zk (fk1 k1 (Nat.le_refl _))
    clear fk1
    obtain ⟨k2, fk2⟩ := h2
    have X2 := zk (fk2 k2 (Nat.le_refl _))
    clear fk2
    obtain ⟨k3, fk3⟩ := h3
    have X3 := zk (fk3 k3 (Nat.le_refl _))
    clear fk3
    have H6 := zk h6
    clear h6 hone
    go_wp2_with (fail)
    refine (impl_RunWord.calls k1 Ao co o by_ sweep true _ (Kd.V_reads' HVo.out).2.2 (Kd.V_reads' HVo.out).2.1 X1.out).mono ?_
    rintro e_ w30 ⟨v0_30, rfl, hv0_30, hb30⟩
    obtain ⟨Az1, cz1, rfl, gv0_30⟩ := led_R hv0_30
    have HVz1 := zk gv0_30
    clear gv0_30 hv0_30
    replace HVo := zk (Kd.V_below HVo.out hb30)
    replace HVs1 := zk (Kd.V_below HVs1.out hb30)
    replace HVk1 := zk (blk_below HVk1.out hb30)
    replace HVq1 := zk (Kd.V_below HVq1.out hb30)
    replace HB := zk (below_step HB.out hb30)
    clear hb30
    go_wp2_with (fail)
    refine (laws_rInts.calls k2 Az1 cz1 sweep As1 cs1 sweep true _ (Kd.V_reads' HVz1.out).2.2 (Kd.V_reads' HVz1.out).2.1 (Kd.V_reads' HVs1.out).2.2 (Kd.V_reads' HVs1.out).2.1 X2.out).mono ?_
    rintro e_ w31 ⟨rfl, hb31⟩
    replace hb31 := hb31.below
    replace HVo := zk (Kd.V_below HVo.out hb31)
    replace HVs1 := zk (Kd.V_below HVs1.out hb31)
    replace HVk1 := zk (blk_below HVk1.out hb31)
    replace HVq1 := zk (Kd.V_below HVq1.out hb31)
    replace HVz1 := zk (Kd.V_below HVz1.out hb31)
    replace HB := zk (below_step HB.out hb31)
    clear hb31
    go_wp2_with (fail)
    refine (laws_rSorted.calls k3 As1 cs1 sweep can _ (Kd.V_reads' HVs1.out).2.2 (Kd.V_reads' HVs1.out).2.1 X3.out).mono ?_
    rintro e_ w32 ⟨rfl, hb32⟩
    replace hb32 := hb32.below
    replace HVo := zk (Kd.V_below HVo.out hb32)
    replace HVs1 := zk (Kd.V_below HVs1.out hb32)
    replace HVk1 := zk (blk_below HVk1.out hb32)
    replace HVq1 := zk (Kd.V_below HVq1.out hb32)
    replace HVz1 := zk (Kd.V_below HVz1.out hb32)
    replace HB := zk (below_step HB.out hb32)
    clear hb32
    obtain ⟨j, hj⟩ : ∃ j : Nat, (sweep.length : Int) - 1 = (j : Int) := ⟨sweep.length - 1, by omega⟩
    have hj2 : sweep.length - 1 = j := by omega
    have hw1 : wrap64 ((sweep.length : Int) - 1) = (j : Int) := by rw [wrap_of (by omega) (by omega)]; omega
    obtain ⟨ad, e1, hx⟩ := led_int HVs1.out j (by omega)
    cases e1
    have hv := H6.out
    rw [hj2] at hv
    rw [hv] at hx
    have hjl : (j : Int) < (sweep.length : Int) := by omega
    have hj0 : (0 : Int) ≤ (j : Int) := by omega
    clear hv hj hj2 h4 h5
    go_wp2_with (fail)
    clear hw1 hx hjl hj0
    cases can with
    | true =>
     repeat (go_quiet (fail); try go_wp2)
     go_ret
     exact ⟨rfl, by repeat (first | exact HB.out | apply zd)⟩
    | false =>
     obtain ⟨⟨p0, p1, p2, p3⟩, r1, r2⟩ := hbad.out (by trivial) (by trivial)
     obtain ⟨i0, rfl⟩ : ∃ i : Nat, b0 = (i : Int) := ⟨b0.toNat, by omega⟩
     obtain ⟨i1, rfl⟩ : ∃ i : Nat, b1 = (i : Int) := ⟨b1.toNat, by omega⟩
     obtain ⟨i2, rfl⟩ : ∃ i : Nat, b2 = (i : Int) := ⟨b2.toNat, by omega⟩
     have z0 := blk_cell HVk1.out 0
     have z1 := blk_cell HVk1.out 1
     have z2 := blk_cell HVk1.out 2
     obtain ⟨ad0, ea0, ha0⟩ := led_int HVo.out i0 (by omega)
     cases ea0
     have hb0 : (i0 : Int) < (o.length : Int) := by omega
     obtain ⟨ad1, ea1, ha1⟩ := led_int HVo.out i1 (by omega)
     cases ea1
     have hb1 : (i1 : Int) < (o.length : Int) := by omega
     obtain ⟨ad2, ea2, ha2⟩ := led_int HVo.out i2 (by omega)
     cases ea2
     have hb2 : (i2 : Int) < (o.length : Int) := by omega
     have c1 : decide ((i0 : Int) < (i1 : Int)) = true := decide_eq_true p1
     have c2 : decide ((i1 : Int) < (i2 : Int)) = true := decide_eq_true p2
     have d1 : decide (i0 < i1) = true := decide_eq_true (by omega)
     have d2 : decide (i1 < i2) = true := decide_eq_true (by omega)
     have c3 : decide (o.getD i2 0 < o.getD i0 0) = true := decide_eq_true r1
     have c4 : decide (o.getD i0 0 < o.getD i1 0) = true := decide_eq_true r2
     obtain ⟨v0, hv0⟩ : ∃ v, o.getD i0 0 = v := ⟨_, rfl⟩
     obtain ⟨v1, hv1⟩ : ∃ v, o.getD i1 0 = v := ⟨_, rfl⟩
     obtain ⟨v2, hv2⟩ : ∃ v, o.getD i2 0 = v := ⟨_, rfl⟩
     rw [hv0] at ha0 c3 c4
     rw [hv1] at ha1 c4
     rw [hv2] at ha2 c3
     clear r1 r2 hv0 hv1 hv2 p0 p1 p2 p3
     repeat (go_quiet (fail); try go_wp2)
     go_ret
     exact ⟨rfl, by repeat (first | exact HB.out | apply zd)⟩
 | false =>
  go_enter Try.func10, Try.ntmps10
  go_wp2_with (fail)
  refine (laws_rBig.calls A0 c0 l0 false _ HVc.out HC0.out H1.out).mono ?_
  rintro e_ w1 ⟨rfl, hb1⟩
  replace hb1 := hb1.below
  replace HVc := zk (Kd.C_below HVc.out hb1)
  replace HB := zk (below_step HB.out hb1)
  clear hb1
  go_wp2_with (fail)
  refine (spec_DrawSortingWord.calls n2 A0 c0 l0 o _ HVc.out HC0.out H2.out).mono ?_
  rintro e_ w2 ⟨v0_2, rfl, hv0_2, hb2⟩
  obtain ⟨Ao, co, rfl, gv0_2⟩ := led_R hv0_2
  have HVo := zk gv0_2
  clear gv0_2 hv0_2
  replace HVc := zk (Kd.C_below HVc.out hb2)
  replace HB := zk (below_step HB.out hb2)
  clear hb2
  go_wp2_with (fail)
  refine (impl_SortingWord.calls n3 Ao co o sw false _ (Kd.V_reads' HVo.out).2.2 (Kd.V_reads' HVo.out).2.1 H3.out).mono ?_
  rintro e_ w3 ⟨rfl, hb3⟩
  replace HVc := zk (Kd.C_below HVc.out hb3)
  replace HVo := zk (Kd.V_below HVo.out hb3)
  replace HB := zk (below_step HB.out hb3)
  clear hb3
  go_wp2_with (fail)
  refine (spec_SortingWord.calls n4 Ao co o sw false _ (Kd.V_reads' HVo.out).2.2 (Kd.V_reads' HVo.out).2.1 H4.out).mono ?_
  rintro e_ w4 ⟨rfl, hb4⟩
  replace HVc := zk (Kd.C_below HVc.out hb4)
  replace HVo := zk (Kd.V_below HVo.out hb4)
  replace HB := zk (below_step HB.out hb4)
  clear hb4
  go_wp2_with (fail)
  refine (impl_IsSortable.calls n5 Ao co o can false _ (Kd.V_reads' HVo.out).2.2 (Kd.V_reads' HVo.out).2.1 H5.out).mono ?_
  rintro e_ w5 ⟨rfl, hb5⟩
  replace HVc := zk (Kd.C_below HVc.out hb5)
  replace HVo := zk (Kd.V_below HVo.out hb5)
  replace HB := zk (below_step HB.out hb5)
  clear hb5
  go_wp2_with (fail)
  refine (spec_IsSortable.calls n6 Ao co o can false _ (Kd.V_reads' HVo.out).2.2 (Kd.V_reads' HVo.out).2.1 H6.out).mono ?_
  rintro e_ w6 ⟨rfl, hb6⟩
  replace HVc := zk (Kd.C_below HVc.out hb6)
  replace HVo := zk (Kd.V_below HVo.out hb6)
  replace HB := zk (below_step HB.out hb6)
  clear hb6
  go_wp2_with (fail)
  refine (impl_SweepOrder.calls n7 Ao co o sweep false _ (Kd.V_reads' HVo.out).2.2 (Kd.V_reads' HVo.out).2.1 H7.out).mono ?_
  rintro e_ w7 ⟨v0_7, rfl, hv0_7, hb7⟩
  obtain ⟨As1, cs1, rfl, gv0_7⟩ := led_R hv0_7
  have HVs1 := zk gv0_7
  clear gv0_7 hv0_7
  replace HVc := zk (Kd.C_below HVc.out hb7)
  replace HVo := zk (Kd.V_below HVo.out hb7)
  replace HB := zk (below_step HB.out hb7)
  clear hb7
  go_wp2_with (fail)
  refine (spec_SweepOrder.calls n8 Ao co o sweep false _ (Kd.V_reads' HVo.out).2.2 (Kd.V_reads' HVo.out).2.1 H8.out).mono ?_
  rintro e_ w8 ⟨v0_8, rfl, hv0_8, hb8⟩
  obtain ⟨As2, cs2, rfl, gv0_8⟩ := led_R hv0_8
  have HVs2 := zk gv0_8
  clear gv0_8 hv0_8
  replace HVc := zk (Kd.C_below HVc.out hb8)
  replace HVo := zk (Kd.V_below HVo.out hb8)
  replace HVs1 := zk (Kd.V_below HVs1.out hb8)
  replace HB := zk (below_step HB.out hb8)
  clear hb8
  go_wp2_with (fail)
  refine (laws_rInts.calls n9 As1 cs1 sweep As2 cs2 sweep true _ (Kd.V_reads' HVs1.out).2.2 (Kd.V_reads' HVs1.out).2.1 (Kd.V_reads' HVs2.out).2.2 (Kd.V_reads' HVs2.out).2.1 H9.out).mono ?_
  rintro e_ w9 ⟨rfl, hb9⟩
  replace hb9 := hb9.below
  replace HVc := zk (Kd.C_below HVc.out hb9)
  replace HVo := zk (Kd.V_below HVo.out hb9)
  replace HVs1 := zk (Kd.V_below HVs1.out hb9)
  replace HVs2 := zk (Kd.V_below HVs2.out hb9)
  replace HB := zk (below_step HB.out hb9)
  clear hb9
  clear HVs2
  go_wp2_with (fail)
  refine (impl_SweepWord.calls n10 Ao co o by_ false _ (Kd.V_reads' HVo.out).2.2 (Kd.V_reads' HVo.out).2.1 H10.out).mono ?_
  rintro e_ w10 ⟨rfl, hb10⟩
  replace HVc := zk (Kd.C_below HVc.out hb10)
  replace HVo := zk (Kd.V_below HVo.out hb10)
  replace HVs1 := zk (Kd.V_below HVs1.out hb10)
  replace HB := zk (below_step HB.out hb10)
  clear hb10
  go_wp2_with (fail)
  refine (spec_SweepWord.calls n11 Ao co o by_ false _ (Kd.V_reads' HVo.out).2.2 (Kd.V_reads' HVo.out).2.1 H11.out).mono ?_
  rintro e_ w11 ⟨rfl, hb11⟩
  replace HVc := zk (Kd.C_below HVc.out hb11)
  replace HVo := zk (Kd.V_below HVo.out hb11)
  replace HVs1 := zk (Kd.V_below HVs1.out hb11)
  replace HB := zk (below_step HB.out hb11)
  clear hb11
  go_wp2_with (fail)
  refine (impl_BadTriple.calls n12 Ao co o b0 b1 b2 false _ (Kd.V_reads' HVo.out).2.2 (Kd.V_reads' HVo.out).2.1 H12.out).mono ?_
  rintro e_ w12 ⟨rfl, hb12⟩
  replace HVc := zk (Kd.C_below HVc.out hb12)
  replace HVo := zk (Kd.V_below HVo.out hb12)
  replace HVs1 := zk (Kd.V_below HVs1.out hb12)
  replace HB := zk (below_step HB.out hb12)
  clear hb12
  go_wp2_with (fail)
  replace HVc := zk (zv HVc.out (Obj.cells #[.int .i64 b0, .int .i64 b1, .int .i64 b2] 34))
  replace HVo := zk (Kd.V_alloc HVo.out (Obj.cells #[.int .i64 b0, .int .i64 b1, .int .i64 b2] 34))
  replace HVs1 := zk (Kd.V_alloc HVs1.out (Obj.cells #[.int .i64 b0, .int .i64 b1, .int .i64 b2] 34))
  replace HB := zk (za HB.out (Obj.cells #[.int .i64 b0, .int .i64 b1, .int .i64 b2] 34))
  have HVk1 := zk (blk_new w12 (Obj.cells #[.int .i64 b0, .int .i64 b1, .int .i64 b2] 34))
  refine (spec_BadTriple.calls n13 Ao co o b0 b1 b2 false _ (Kd.V_reads' HVo.out).2.2 (Kd.V_reads' HVo.out).2.1 H13.out).mono ?_
  rintro e_ w13 ⟨rfl, hb13⟩
  replace HVc := zk (Kd.C_below HVc.out hb13)
  replace HVo := zk (Kd.V_below HVo.out hb13)
  replace HVs1 := zk (Kd.V_below HVs1.out hb13)
  replace HVk1 := zk (blk_below HVk1.out hb13)
  replace HB := zk (below_step HB.out hb13)
  clear hb13
  have x0 := blk_cell (blk_alloc HVk1.out (Obj.cells #[.int .i64 b0, .int .i64 b1, .int .i64 b2] 34)) 0
  have x1 := blk_cell (blk_alloc HVk1.out (Obj.cells #[.int .i64 b0, .int .i64 b1, .int .i64 b2] 34)) 1
  have x2 := blk_cell (blk_alloc HVk1.out (Obj.cells #[.int .i64 b0, .int .i64 b1, .int .i64 b2] 34)) 2
  have y0 := blk_cell (blk_new w13 (Obj.cells #[.int .i64 b0, .int .i64 b1, .int .i64 b2] 34)) 0
  have y1 := blk_cell (blk_new w13 (Obj.cells #[.int .i64 b0, .int .i64 b1, .int .i64 b2] 34)) 1
  have y2 := blk_cell (blk_new w13 (Obj.cells #[.int .i64 b0, .int .i64 b1, .int .i64 b2] 34)) 2
  replace HVc := zk (zv HVc.out (Obj.cells #[.int .i64 b0, .int .i64 b1, .int .i64 b2] 34))
  replace HVo := zk (Kd.V_alloc HVo.out (Obj.cells #[.int .i64 b0, .int .i64 b1, .int .i64 b2] 34))
  replace HVs1 := zk (Kd.V_alloc HVs1.out (Obj.cells #[.int .i64 b0, .int .i64 b1, .int .i64 b2] 34))
  replace HVk1 := zk (blk_alloc HVk1.out (Obj.cells #[.int .i64 b0, .int .i64 b1, .int .i64 b2] 34))
  replace HB := zk (za HB.out (Obj.cells #[.int .i64 b0, .int .i64 b1, .int .i64 b2] 34))
  have HVk2 := zk (blk_new w13 (Obj.cells #[.int .i64 b0, .int .i64 b1, .int .i64 b2] 34))
  go_wp2_with (fail)
  refine (spec_DrawOrderOfWord.calls n14 A0 c0 l0 x _ HVc.out HC0.out H14.out).mono ?_
  rintro e_ w14 ⟨rfl, hb14⟩
  replace HVc := zk (Kd.C_below HVc.out hb14)
  replace HVo := zk (Kd.V_below HVo.out hb14)
  replace HVs1 := zk (Kd.V_below HVs1.out hb14)
  replace HVk1 := zk (blk_below HVk1.out hb14)
  replace HVk2 := zk (blk_below HVk2.out hb14)
  replace HB := zk (below_step HB.out hb14)
  clear hb14
  clear x0 x1 x2 y0 y1 y2
  clear HVk2
  go_wp2_with (fail)
  refine (impl_OrderOfWord.calls n15 x order five _ H15.out).mono ?_
  rintro e_ w15 ⟨v0_15, rfl, hv0_15, hb15⟩
  obtain ⟨Aq1, cq1, rfl, gv0_15⟩ := led_R hv0_15
  have HVq1 := zk gv0_15
  clear gv0_15 hv0_15
  replace HVc := zk (Kd.C_below HVc.out hb15)
  replace HVo := zk (Kd.V_below HVo.out hb15)
  replace HVs1 := zk (Kd.V_below HVs1.out hb15)
  replace HVk1 := zk (blk_below HVk1.out hb15)
  replace HB := zk (below_step HB.out hb15)
  clear hb15
  go_wp2_with (fail)
  refine (spec_OrderOfWord.calls n16 x order five _ H16.out).mono ?_
  rintro e_ w16 ⟨v0_16, rfl, hv0_16, hb16⟩
  obtain ⟨Aq2, cq2, rfl, gv0_16⟩ := led_R hv0_16
  have HVq2 := zk gv0_16
  clear gv0_16 hv0_16
  replace HVc := zk (Kd.C_below HVc.out hb16)
  replace HVo := zk (Kd.V_below HVo.out hb16)
  replace HVs1 := zk (Kd.V_below HVs1.out hb16)
  replace HVk1 := zk (blk_below HVk1.out hb16)
  replace HVq1 := zk (Kd.V_below HVq1.out hb16)
  replace HB := zk (below_step HB.out hb16)
  clear hb16
  go_wp2_with (fail)
  refine (impl_IsWord.calls n17 x five _ H17.out).mono ?_
  rintro e_ w17 ⟨rfl, hb17⟩
  replace HVc := zk (Kd.C_below HVc.out hb17)
  replace HVo := zk (Kd.V_below HVo.out hb17)
  replace HVs1 := zk (Kd.V_below HVs1.out hb17)
  replace HVk1 := zk (blk_below HVk1.out hb17)
  replace HVq1 := zk (Kd.V_below HVq1.out hb17)
  replace HVq2 := zk (Kd.V_below HVq2.out hb17)
  replace HB := zk (below_step HB.out hb17)
  clear hb17
  go_wp2_with (fail)
  refine (laws_rInts.calls n18 Aq1 cq1 order Aq2 cq2 order true _ (Kd.V_reads' HVq1.out).2.2 (Kd.V_reads' HVq1.out).2.1 (Kd.V_reads' HVq2.out).2.2 (Kd.V_reads' HVq2.out).2.1 H18.out).mono ?_
  rintro e_ w18 ⟨rfl, hb18⟩
  replace hb18 := hb18.below
  replace HVc := zk (Kd.C_below HVc.out hb18)
  replace HVo := zk (Kd.V_below HVo.out hb18)
  replace HVs1 := zk (Kd.V_below HVs1.out hb18)
  replace HVk1 := zk (blk_below HVk1.out hb18)
  replace HVq1 := zk (Kd.V_below HVq1.out hb18)
  replace HVq2 := zk (Kd.V_below HVq2.out hb18)
  replace HB := zk (below_step HB.out hb18)
  clear hb18
  clear HVq2
  go_wp2_with (fail)
  refine (impl_RankOfWord.calls n19 x rank five _ H19.out).mono ?_
  rintro e_ w19 ⟨rfl, hb19⟩
  replace HVc := zk (Kd.C_below HVc.out hb19)
  replace HVo := zk (Kd.V_below HVo.out hb19)
  replace HVs1 := zk (Kd.V_below HVs1.out hb19)
  replace HVk1 := zk (blk_below HVk1.out hb19)
  replace HVq1 := zk (Kd.V_below HVq1.out hb19)
  replace HB := zk (below_step HB.out hb19)
  clear hb19
  go_wp2_with (fail)
  refine (spec_RankOfWord.calls n20 x rank five _ H20.out).mono ?_
  rintro e_ w20 ⟨rfl, hb20⟩
  replace HVc := zk (Kd.C_below HVc.out hb20)
  replace HVo := zk (Kd.V_below HVo.out hb20)
  replace HVs1 := zk (Kd.V_below HVs1.out hb20)
  replace HVk1 := zk (blk_below HVk1.out hb20)
  replace HVq1 := zk (Kd.V_below HVq1.out hb20)
  replace HB := zk (below_step HB.out hb20)
  clear hb20
  go_wp2_with (fail)
  refine (spec_DrawWordAt.calls n21 A0 c0 l0 n k_ _ HVc.out HC0.out H21.out).mono ?_
  rintro e_ w21 ⟨rfl, hb21⟩
  replace HVc := zk (Kd.C_below HVc.out hb21)
  replace HVo := zk (Kd.V_below HVo.out hb21)
  replace HVs1 := zk (Kd.V_below HVs1.out hb21)
  replace HVk1 := zk (blk_below HVk1.out hb21)
  replace HVq1 := zk (Kd.V_below HVq1.out hb21)
  replace HB := zk (below_step HB.out hb21)
  clear hb21
  go_wp2_with (fail)
  refine (impl_WordAt.calls n22 n k_ at_ seven _ H22.out).mono ?_
  rintro e_ w22 ⟨rfl, hb22⟩
  replace HVc := zk (Kd.C_below HVc.out hb22)
  replace HVo := zk (Kd.V_below HVo.out hb22)
  replace HVs1 := zk (Kd.V_below HVs1.out hb22)
  replace HVk1 := zk (blk_below HVk1.out hb22)
  replace HVq1 := zk (Kd.V_below HVq1.out hb22)
  replace HB := zk (below_step HB.out hb22)
  clear hb22
  go_wp2_with (fail)
  refine (spec_WordAt.calls n23 n k_ at_ seven _ H23.out).mono ?_
  rintro e_ w23 ⟨rfl, hb23⟩
  replace HVc := zk (Kd.C_below HVc.out hb23)
  replace HVo := zk (Kd.V_below HVo.out hb23)
  replace HVs1 := zk (Kd.V_below HVs1.out hb23)
  replace HVk1 := zk (blk_below HVk1.out hb23)
  replace HVq1 := zk (Kd.V_below HVq1.out hb23)
  replace HB := zk (below_step HB.out hb23)
  clear hb23
  go_wp2_with (fail)
  refine (spec_DrawCountOneStack.calls A0 c0 l0 m _ HVc.out HC0.out H24.out).mono ?_
  rintro e_ w24 ⟨rfl, hb24⟩
  replace HVc := zk (Kd.C_below HVc.out hb24)
  replace HVo := zk (Kd.V_below HVo.out hb24)
  replace HVs1 := zk (Kd.V_below HVs1.out hb24)
  replace HVk1 := zk (blk_below HVk1.out hb24)
  replace HVq1 := zk (Kd.V_below HVq1.out hb24)
  replace HB := zk (below_step HB.out hb24)
  clear hb24
  clear HVc
  go_wp2_with (fail)
  refine (impl_CountOneStack.calls n25 m many eight _ H25.out).mono ?_
  rintro e_ w25 ⟨rfl, hb25⟩
  replace hb25 := hb25.below
  replace HVo := zk (Kd.V_below HVo.out hb25)
  replace HVs1 := zk (Kd.V_below HVs1.out hb25)
  replace HVk1 := zk (blk_below HVk1.out hb25)
  replace HVq1 := zk (Kd.V_below HVq1.out hb25)
  replace HB := zk (below_step HB.out hb25)
  clear hb25
  go_wp2_with (fail)
  refine (spec_CountOneStack.calls n26 m many eight _ H26.out).mono ?_
  rintro e_ w26 ⟨rfl, hb26⟩
  replace HVo := zk (Kd.V_below HVo.out hb26)
  replace HVs1 := zk (Kd.V_below HVs1.out hb26)
  replace HVk1 := zk (blk_below HVk1.out hb26)
  replace HVq1 := zk (Kd.V_below HVq1.out hb26)
  replace HB := zk (below_step HB.out hb26)
  clear hb26
  cases five with
  | false =>
   clear hfive
   cases seven with
   | false =>
    clear hseven
    go_wp2_with (fail)
    go_ret
    exact ⟨rfl, HB.out⟩
   | true =>
    obtain ⟨kv, fkv⟩ := hseven.out rfl
    have XV := zk (fkv kv (Nat.le_refl _))
    clear fkv
    go_wp2_with (fail)
    refine (impl_RankOfWord.calls kv at_ k_ true _ XV.out).mono ?_
    rintro e_ w27 ⟨rfl, hb27⟩
    replace HVo := zk (Kd.V_below HVo.out hb27)
    replace HVs1 := zk (Kd.V_below HVs1.out hb27)
    replace HVk1 := zk (blk_below HVk1.out hb27)
    replace HVq1 := zk (Kd.V_below HVq1.out hb27)
    replace HB := zk (below_step HB.out hb27)
    clear hb27
    clear XV hseven
    go_wp2_with (fail)
    go_ret
    exact ⟨rfl, HB.out⟩
  | true =>
   obtain ⟨hf1, hf2⟩ := hfive.out rfl
   obtain ⟨kf, fkf⟩ := hf1
   have XF := zk (fkf kf (Nat.le_refl _))
   clear fkf
   obtain ⟨kg, fkg⟩ := hf2
   have XG := zk (fkg kg (Nat.le_refl _))
   clear fkg
   go_wp2_with (fail)
   refine (impl_SortingWord.calls kf Aq1 cq1 order x true _ (Kd.V_reads' HVq1.out).2.2 (Kd.V_reads' HVq1.out).2.1 XF.out).mono ?_
   rintro e_ w27 ⟨rfl, hb27⟩
   replace HVo := zk (Kd.V_below HVo.out hb27)
   replace HVs1 := zk (Kd.V_below HVs1.out hb27)
   replace HVk1 := zk (blk_below HVk1.out hb27)
   replace HVq1 := zk (Kd.V_below HVq1.out hb27)
   replace HB := zk (below_step HB.out hb27)
   clear hb27
   go_wp2_with (fail)
   refine (impl_WordAt.calls kg ((wrap64 ((x.size : Int) / 2))) rank x true _ XG.out).mono ?_
   rintro e_ w28 ⟨rfl, hb28⟩
   replace HVo := zk (Kd.V_below HVo.out hb28)
   replace HVs1 := zk (Kd.V_below HVs1.out hb28)
   replace HVk1 := zk (blk_below HVk1.out hb28)
   replace HVq1 := zk (Kd.V_below HVq1.out hb28)
   replace HB := zk (below_step HB.out hb28)
   clear hb28
   clear XF XG hfive
   cases seven with
   | false =>
    clear hseven
    go_wp2_with (fail)
    go_ret
    exact ⟨rfl, HB.out⟩
   | true =>
    obtain ⟨kv, fkv⟩ := hseven.out rfl
    have XV := zk (fkv kv (Nat.le_refl _))
    clear fkv
    go_wp2_with (fail)
    refine (impl_RankOfWord.calls kv at_ k_ true _ XV.out).mono ?_
    rintro e_ w29 ⟨rfl, hb29⟩
    replace HVo := zk (Kd.V_below HVo.out hb29)
    replace HVs1 := zk (Kd.V_below HVs1.out hb29)
    replace HVk1 := zk (blk_below HVk1.out hb29)
    replace HVq1 := zk (Kd.V_below HVq1.out hb29)
    replace HB := zk (below_step HB.out hb29)
    clear hb29
    clear XV hseven
    go_wp2_with (fail)
    go_ret
    exact ⟨rfl, HB.out⟩
/-- THE ONE PURE STATEMENT of laws_FnOneStack. -/
def laws_FnOneStack.Pure : Prop := ∀ (l0 : List Int), l0.length ≤ maxLen → l0.length * 1 ≤ 140737488351232 → (∀ x ∈ l0, (Lit.int .u8 x).wf = true) → laws_rBig.f l0 = some true ∨ laws_rBig.f l0 = some false ∧ ∃ (o sweep order : List Int) (sw by_ x at_ : ByteArray) (b0 b1 b2 rank n k_ m many : Int) (one can five seven eight : Bool), laws_FnOneStack.Facts l0 o sweep order sw by_ x at_ b0 b1 b2 rank n k_ m many one can five seven eight
set_option maxHeartbeats 8000000 in
set_option maxRecDepth 100000 in
theorem laws_FnOneStack.big (A0 : Option Addr) (c0 : Nat) (l0 : List Int) (w : World) (hr0 : Kd.C (Kd.int .u8) w A0 l0.length l0) (hc0 : l0.length ≤ c0) (HBG : laws_rBig.f l0 = some true) :
 Calls Try.prog 10 #[.slice A0 l0.length c0] w fun e w' => e = .returned (.bool true) ∧ Below w.heap.size w w' := by
 have HG := zk HBG
 clear HBG
 go_enter Try.func10, Try.ntmps10
 go_wp2_with (fail)
 refine (laws_rBig.calls A0 c0 l0 true _ hr0 hc0 HG.out).mono ?_
 rintro e_ w1 ⟨rfl, hb1⟩
 replace hb1 := hb1.below
 go_wp2_with (fail)
 go_ret
 exact ⟨rfl, hb1⟩
theorem laws_FnOneStack.walk (P : laws_FnOneStack.Pure) (a0 : Option Addr) (len0 cap0 : Nat) (z0 : List Int) (w : World) (w0 : (a0 = none ∧ len0 = 0 ∧ cap0 = 0 ∧ z0 = []) ∨ ∃ x, a0 = some x ∧ len0 ≤ cap0 ∧ cap0 ≤ maxLen ∧ z0.length = cap0 ∧ (∀ i, i < z0.length → w.cell? (x.add i) = some (.int .u8 (z0.getD i 0))) ∧ ∀ n ∈ z0, (Lit.int .u8 n).wf = true) (y0 : len0 * 1 ≤ 140737488351232) :
 Calls Try.prog 10 #[.slice a0 len0 cap0] w fun e w' => e = .returned (.bool true) ∧ Below w.heap.size w w' := by
 obtain ⟨l0, rfl, hr0, hm0, hw0, hc0⟩ := ReadsInt.ofRowC w0
 rcases P l0 hm0 y0 hw0 with h | ⟨h, o, sweep, order, sw, by_, x, at_, b0, b1, b2, rank, n, k_, m, many, one, can, five, seven, eight, F⟩
 · exact laws_FnOneStack.big _ _ l0 w (Kd.C_of_reads (d := (0 : Int)) (h1 := fun _ => rfl) hr0) hc0 h
 · exact laws_FnOneStack.own o sweep order sw by_ x at_ b0 b1 b2 rank n k_ m many one can five seven eight _ _ l0 w (Kd.C_of_reads (d := (0 : Int)) (h1 := fun _ => rfl) hr0) hc0 h F
end

end Go.Proofs.Ytlkddcabjcejdaa.MFnOneStack
