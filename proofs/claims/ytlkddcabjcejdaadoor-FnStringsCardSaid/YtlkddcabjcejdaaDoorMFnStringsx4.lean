/- The functions that FnStrings comes to, with a walk for each. Made by this session's own program (wip/tools/mk.py), in the form of the kit's print; walks named in NOTES.md were written by hand. -/
import Derived.Test.YtlkddcabjcejdaaDoorMFnStringsx0
import Derived.Test.YtlkddcabjcejdaaDoorMFnStringsx1
import Derived.Test.YtlkddcabjcejdaaDoorMFnStringsx2
import Derived.Test.YtlkddcabjcejdaaDoorMFnStringsx3
namespace Go.Proofs.YtlkddcabjcejdaaDoor.MFnStrings
open Go.RowKit Go.Proofs.YtlkddcabjcejdaaDoorW.PrintWords Go.Proofs.YtlkddcabjcejdaaDoorW.PrintLast Go.Proofs.YtlkddcabjcejdaaDoorW.PrintMore
attribute [local go_sem] max2_int min2_int max_two min_two max_three min_three max_four min_four   -- for this text's walks alone
set_option linter.unusedVariables false
set_option linter.unusedSimpArgs false

/-! ### laws_FnStrings: function 3 -/
section
open Go.Proofs.YtlkddcabjcejdaaDoor.Base
theorem led_V {α : Type} {d : Kd α} {e b : Nat} {W : World} {ok : Nat → Prop} {v : Value} {xs : List α} (h : Kd.V d e W b ok v xs) : ∃ A c, v = .slice A xs.length c ∧ Kd.V d e W 0 (fun _ => True) (.slice A xs.length c) xs := by
  obtain ⟨A, c, rfl⟩ := Kd.V_slice h
  exact ⟨A, c, rfl, Kd.V_mono h (fun _ _ => trivial)⟩
theorem led_R {α : Type} {d : Kd α} {e b : Nat} {W : World} {ok : Nat → Prop} {v : Value} {xs : List α} (h : Kd.R d e W b ok v xs) : ∃ A c, v = .slice A xs.length c ∧ Kd.V d e W 0 (fun _ => True) (.slice A xs.length c) xs := led_V (Kd.R_V (base' := 0) h)
theorem led_S {α : Type} {d : Kd α} {e b : Nat} {W : World} {ok : Nat → Prop} {v : Value} {xs : List α} (h : Kd.S d e W b ok v xs) : ∃ A c, v = .slice A xs.length c ∧ Kd.V d e W 0 (fun _ => True) (.slice A xs.length c) xs := led_V (Kd.S_V (base' := 0) h)
theorem led_N {α : Type} {d : Kd α} {e b : Nat} {W : World} {ok : Nat → Prop} {v : Value} {xs : List α} (h : Kd.N d e W b ok v xs) : ∃ A c, v = .slice A xs.length c ∧ Kd.V d e W 0 (fun _ => True) (.slice A xs.length c) xs := led_V (Kd.N_V (base' := 0) h)
theorem led_row {W : World} {A : Option Addr} {c : Nat} {e : TypeId} {rows : List (List Int)} (h : Kd.V (Kd.slice 3 (Kd.int .i64)) e W 0 (fun _ => True) (.slice A rows.length c) rows) (i : Nat) (hi : i < rows.length) : ∃ ad A' c', A = some ad ∧ W.cell? (ad.add i) = some (.slice A' (rows.getD i []).length c') ∧ Kd.V (Kd.int .i64) 3 W 0 (fun _ => True) (.slice A' (rows.getD i []).length c') (rows.getD i []) := by
  obtain ⟨ad, cs, e1, _, hK, hc, _⟩ := Kd.F_get (Kd.V_F h) ([] : List Int) (i : Int) (by omega) (by omega)
  obtain ⟨A', c', rfl, hl, hf⟩ := Kd.FK_slice_open hK
  have h0 := hc 0 _ rfl
  simp only [Int.toNat_natCast] at h0 hl hf
  rw [show (Kd.slice 3 (Kd.int .i64)).sz = 1 from rfl, Nat.mul_one, Nat.add_zero] at h0
  exact ⟨ad, A', c', e1, h0, Kd.V_mk hl hf⟩
theorem led_int {W : World} {A : Option Addr} {c : Nat} {e : TypeId} {xs : List Int} (h : Kd.V (Kd.int .i64) e W 0 (fun _ => True) (.slice A xs.length c) xs) (i : Nat) (hi : i < xs.length) : ∃ ad, A = some ad ∧ W.cell? (ad.add i) = some (.int .i64 (xs.getD i 0)) := by
  obtain ⟨ad, e1, hc⟩ := Kd.at_int (Kd.V_reads' h).2.2 (i : Int) (by omega) (by omega)
  rw [Int.toNat_natCast, show rd xs (i : Int) = xs.getD i 0 from rfl] at hc
  exact ⟨ad, e1, hc⟩
def Lib4 (w : World) : Prop := Lib.TabIs Tryd.prog w "internal/strconv.uint64pow10" .u64 Lib.pow10Tab ∧ (∃ m, w.cell? ⟨2, 0, none⟩ = some (.int .i64 m)) ∧ (∃ ev, w.cell? ⟨0, 0, none⟩ = some ev ∧ (ev = .nilIface ∨ ∃ te pe, ev = .iface te pe)) ∧ (∃ ev, w.cell? ⟨1, 0, none⟩ = some ev ∧ (ev = .nilIface ∨ ∃ te pe, ev = .iface te pe))
theorem Lib4.below {w w1 : World} (h : Lib4 w) (hb : Below w.heap.size w w1) : Lib4 w1 := by
  obtain ⟨h1, ⟨m, h2⟩, ⟨e1, h3, i1⟩, ⟨e2, h4, i2⟩⟩ := h
  exact ⟨Lib.tabBelow_of_tabIs h1 w1 hb, ⟨m, (hb.cell (World.block_lt_of_cell? w _ h2)).trans h2⟩, ⟨e1, (hb.cell (World.block_lt_of_cell? w _ h3)).trans h3, i1⟩, ⟨e2, (hb.cell (World.block_lt_of_cell? w _ h4)).trans h4, i2⟩⟩
def FI (n : Int) (s : ByteArray) (b : Bool) : Prop := (-9223372036854775808 ≤ n ∧ n ≤ 9223372036854775807) ∧ fiR n = (s, b)
theorem FI.calls {n : Int} {s : ByteArray} {b : Bool} (H : FI n s b) (w : World) (L : Lib4 w) : Calls Tryd.prog 6 #[.int .i64 n] w fun e w' => e = .returned (.tuple #[.string s, .bool b]) ∧ Below w.heap.size w w' := by
  have := impl_FormatInt.callsT n w H.1 L.1
  rw [H.2] at this; exact this
def PI (s : ByteArray) (m : Int) (b : Bool) : Prop := s.size ≤ 1048576 ∧ piV s = (m, b)
theorem PI.calls {s : ByteArray} {m : Int} {b : Bool} (H : PI s m b) (w : World) (L : Lib4 w) : Calls Tryd.prog 9 #[.string s] w fun e w' => e = .returned (.tuple #[.int .i64 m, .bool b]) ∧ Below w.heap.size w w' := by
  obtain ⟨h1, _, ⟨e1, h3, i1⟩, ⟨e2, h4, i2⟩⟩ := L
  have := impl_ParseInt.callsT s w H.1 e1 e2 h3 i1 h4 i2 h1
  rw [H.2] at this; exact this
def AC (x y : ByteArray) (b : Bool) : Prop := ∃ (k : Nat) (h : Int) (t : ByteArray), impl_checksum.f k x = some h ∧ (0 ≤ h ∧ h ≤ 1000000) ∧ (⟨(Lib.itoa h).toArray⟩ : ByteArray) = t ∧ t.size ≤ 100 ∧ acV x t = (y, b)
theorem AC.calls {x y : ByteArray} {b : Bool} (H : AC x y b) (w : World) (L : Lib4 w) : Calls Tryd.prog 12 #[.string x] w fun e w' => e = .returned (.tuple #[.string y, .bool b]) ∧ Below w.heap.size w w' := by
  obtain ⟨k, h, t, hc, hr, ht, htz, hq⟩ := H
  have := impl_AppendChecksum.callsT k x h w hc hr t ht htz L.1
  rw [hq] at this; exact this
def VC (s z : ByteArray) (b : Bool) : Prop := s.size ≤ 1048576 ∧ ∃ (k : Nat) (t : ByteArray) (h : Int) (u : ByteArray), (⟨(Lib.cut s.data.toList [35]).1.toArray⟩ : ByteArray) = t ∧ impl_checksum.f k t = some h ∧ (0 ≤ h ∧ h ≤ 1000000) ∧ (⟨(Lib.itoa h).toArray⟩ : ByteArray) = u ∧ u.size ≤ 100 ∧ vcV s t u = (z, b)
theorem VC.calls {s z : ByteArray} {b : Bool} (H : VC s z b) (w : World) (L : Lib4 w) : Calls Tryd.prog 14 #[.string s] w fun e w' => e = .returned (.tuple #[.string z, .bool b]) ∧ Below w.heap.size w w' := by
  obtain ⟨hs, k, t, h, u, hst, hc, hr, hu, huz, hq⟩ := H
  obtain ⟨h1, ⟨m, hm⟩, _⟩ := L
  have := impl_VerifyChecksum.callsT k s t h m w hm hs hst hc hr u hu huz h1
  rw [hq] at this; exact this
theorem bytes_free (W : World) (e : TypeId) (s : ByteArray) (j : Nat) (hj : j < s.size) : (Lib.bytesWorld W e s).frozen? ⟨W.heap.size, j, none⟩ = false := by
  have hsz : s.size ≤ (Lib.bytesCells W e s).size := by unfold Lib.bytesCells; rw [Array.size_append, Array.size_map]; show s.data.size ≤ _; omega
  simp only [World.frozen?, Lib.bytesWorld_at_new]
  simp; omega
theorem bytes_getD (s : ByteArray) (j : Nat) : ((s.data.toList.getD j 0).toNat : Int) = (bytesOf s).getD j 0 := by
  unfold bytesOf
  simp only [List.getD_eq_getElem?_getD, List.getElem?_map]
  cases s.data.toList[j]? <;> rfl
theorem reads_set {w : World} {g n : Nat} {y : ByteArray} (h : ∀ j, j < y.size → w.cell? ⟨g, j, none⟩ = some (.int .u8 ((bytesOf y).getD j 0))) (hk : n < y.size) (hs : y.size ≤ 9223372036854775807) (v : Int) :
    ReadsInt (w.setCell ⟨g, n, none⟩ (.int .u8 v)) .u8 (some ⟨g, 0, none⟩) y.size ((bytesOf y).set n v) := by
  have hl := bytesOf_length y
  refine ⟨by rw [List.length_set]; exact hl, hs, fun _ => ⟨_, rfl, fun j hj => ?_⟩⟩
  rw [add_plain]
  by_cases e : j = n
  · subst e
    rw [World.cell?_setCell_same _ _ _ (h j hj)]
    simp [List.getD_eq_getElem?_getD, hl, hj]
  · rw [World.cell?_setCell_other _ _ _ _ (fun hh => e (by injection hh with _ h2 _; exact h2.symm)), h j hj]
    simp [List.getD_eq_getElem?_getD, List.getElem?_set_ne (Ne.symm e)]
/-- What the calls of the law answer, and what the law asks of it. -/
structure laws_FnStrings.Facts (l0 : List Int) (s t x y z2 : ByteArray) (n m back v9 v10 nb : Int) (kn : Nat) (ok fine there sealed_ : Bool) : Prop where
  e1 : laws_vBig.f l0 = some false
  e2 : spec_DrawFormatInt.f l0 = some n
  e3 : Ev (fun k => spec_FormatInt.f k n) ((s, ok))
  e4 : Ev (fun k => spec_DrawParseInt.f k l0) t
  e5 : Ev (fun k => spec_ParseInt.f k t) ((m, fine))
  e6 : spec_DrawAppendChecksum.f l0 = some x
  e7 : Ev (fun k => spec_AppendChecksum.f k x) ((y, sealed_))
  p1 : FI n s ok
  p2 : PI t m fine
  p3 : AC x y sealed_
  p4 : PI s back there
  hok : ok = true → there = true ∧ back = n
  hno : sealed_ = false → (y.toList == ([] : List UInt8)) = true
  hyes : sealed_ = true → VC y x true ∧ VC (strOfNums ((bytesOf y).set kn nb)) z2 false ∧ laws_vAt.f l0 9 = some v9 ∧ laws_vAt.f l0 10 = some v10 ∧ (0 ≤ v9 ∧ v9 ≤ 255) ∧ (0 ≤ v10 ∧ v10 ≤ 255) ∧ (kn < y.size ∧ y.size ≤ 4000 ∧ v9 % (y.size : Int) = (kn : Int)) ∧ bits BinOp.xor IntKind.u8 ((bytesOf y).getD kn 0) (IntKind.u8.wrap (wrap64 (1 + v10.tmod 255))) = nb
set_option maxHeartbeats 16000000 in
set_option maxRecDepth 100000 in
theorem laws_FnStrings.own (s t x y z2 : ByteArray) (n m back v9 v10 nb : Int) (kn : Nat) (ok fine there sealed_ : Bool) (A0 : Option Addr) (c0 : Nat) (l0 : List Int) (w : World) (hlib : Lib4 w) (hr0 : Kd.C (Kd.int .u8) w A0 l0.length l0) (hc0 : l0.length ≤ c0) (HBG : laws_vBig.f l0 = some false) (F : laws_FnStrings.Facts l0 s t x y z2 n m back v9 v10 nb kn ok fine there sealed_) :
    Calls Tryd.prog 3 #[.slice A0 l0.length c0] w fun e w' => e = .returned (.bool true) ∧ Below w.heap.size w w' := by
  have HVc := Aside0.mk hr0
  have HC0 := Aside0.mk hc0
  have H0 := Aside0.mk HBG
  have HB := Aside0.mk (Below.refl w.heap.size w)
  have HL := Aside0.mk (fun w1 (hb : Below w.heap.size w w1) => hlib.below hb)
  have H1 := Aside0.mk F.e1
  have H2 := Aside0.mk F.e2
  obtain ⟨n3, f3⟩ := F.e3
  have H3 := Aside0.mk (f3 n3 (Nat.le_refl _))
  clear f3
  obtain ⟨n4, f4⟩ := F.e4
  have H4 := Aside0.mk (f4 n4 (Nat.le_refl _))
  clear f4
  obtain ⟨n5, f5⟩ := F.e5
  have H5 := Aside0.mk (f5 n5 (Nat.le_refl _))
  clear f5
  have H6 := Aside0.mk F.e6
  obtain ⟨n7, f7⟩ := F.e7
  have H7 := Aside0.mk (f7 n7 (Nat.le_refl _))
  clear f7
  have P1 := Aside0.mk F.p1
  have P2 := Aside0.mk F.p2
  have P3 := Aside0.mk F.p3
  have P4 := Aside0.mk F.p4
  have hok := Aside0.mk F.hok
  have hno := Aside0.mk F.hno
  have hyes := Aside0.mk F.hyes
  clear hr0 hc0 HBG F hlib
  have kb := fun W => print_bytes (P := Tryd.prog) 9 22 5 Tryd.underlying9 Tryd.underlying22 Tryd.underlying5 y W
  go_enter Tryd.func3, Tryd.ntmps3
  go_wp2_with (fail)
  refine (laws_vBig.calls A0 c0 l0 false _ HVc.out HC0.out H1.out).mono ?_
  rintro e_ w1 ⟨rfl, hb1⟩
  replace hb1 := hb1.below
  replace HVc := Aside0.mk (Kd.C_below HVc.out hb1)
  replace HB := Aside0.mk (below_step HB.out hb1)
  clear hb1
  go_wp2_with (fail)
  refine (spec_DrawFormatInt.calls A0 c0 l0 n _ HVc.out HC0.out H2.out).mono ?_
  rintro e_ w2 ⟨rfl, hb2⟩
  replace HVc := Aside0.mk (Kd.C_below HVc.out hb2)
  replace HB := Aside0.mk (below_step HB.out hb2)
  clear hb2
  go_wp2_with (fail)
  refine (FI.calls P1.out _ (HL.out _ HB.out)).mono ?_
  rintro e_ w3 ⟨rfl, hb3⟩
  replace HVc := Aside0.mk (Kd.C_below HVc.out hb3)
  replace HB := Aside0.mk (below_step HB.out hb3)
  clear hb3
  go_wp2_with (fail)
  refine (spec_FormatInt.calls n3 n s ok _ H3.out).mono ?_
  rintro e_ w4 ⟨rfl, hb4⟩
  replace HVc := Aside0.mk (Kd.C_below HVc.out hb4)
  replace HB := Aside0.mk (below_step HB.out hb4)
  clear hb4
  go_wp2_with (fail)
  refine (spec_DrawParseInt.calls n4 A0 c0 l0 t _ HVc.out HC0.out H4.out).mono ?_
  rintro e_ w5 ⟨rfl, hb5⟩
  replace HVc := Aside0.mk (Kd.C_below HVc.out hb5)
  replace HB := Aside0.mk (below_step HB.out hb5)
  clear hb5
  go_wp2_with (fail)
  refine (PI.calls P2.out _ (HL.out _ HB.out)).mono ?_
  rintro e_ w6 ⟨rfl, hb6⟩
  replace HVc := Aside0.mk (Kd.C_below HVc.out hb6)
  replace HB := Aside0.mk (below_step HB.out hb6)
  clear hb6
  go_wp2_with (fail)
  refine (spec_ParseInt.calls n5 t m fine _ H5.out).mono ?_
  rintro e_ w7 ⟨rfl, hb7⟩
  replace HVc := Aside0.mk (Kd.C_below HVc.out hb7)
  replace HB := Aside0.mk (below_step HB.out hb7)
  clear hb7
  go_wp2_with (fail)
  refine (spec_DrawAppendChecksum.calls A0 c0 l0 x _ HVc.out HC0.out H6.out).mono ?_
  rintro e_ w8 ⟨rfl, hb8⟩
  replace HVc := Aside0.mk (Kd.C_below HVc.out hb8)
  replace HB := Aside0.mk (below_step HB.out hb8)
  clear hb8
  go_wp2_with (fail)
  refine (AC.calls P3.out _ (HL.out _ HB.out)).mono ?_
  rintro e_ w9 ⟨rfl, hb9⟩
  replace HVc := Aside0.mk (Kd.C_below HVc.out hb9)
  replace HB := Aside0.mk (below_step HB.out hb9)
  clear hb9
  go_wp2_with (fail)
  refine (spec_AppendChecksum.calls n7 x y sealed_ _ H7.out).mono ?_
  rintro e_ w10 ⟨rfl, hb10⟩
  replace HVc := Aside0.mk (Kd.C_below HVc.out hb10)
  replace HB := Aside0.mk (below_step HB.out hb10)
  clear hb10
  cases ok with
  | false =>
    go_wp2_with (fail)
    refine (PI.calls P4.out _ (HL.out _ HB.out)).mono ?_
    rintro e_ w11 ⟨rfl, hb11⟩
    replace HVc := Aside0.mk (Kd.C_below HVc.out hb11)
    replace HB := Aside0.mk (below_step HB.out hb11)
    clear hb11
    cases sealed_ with
    | false =>
      have hy0 : (y.toList == ([] : List UInt8)) = true := hno.out rfl
      go_wp2_with (fail)
      go_ret
      exact ⟨by first | rfl | simp [hy0], HB.out⟩
    | true =>
      obtain ⟨q1, q2, q3, q4, q5, q6, q7, hnb⟩ := hyes.out rfl
      have Q1 := Aside0.mk q1
      have Q2 := Aside0.mk q2
      have V9 := Aside0.mk q3
      have V10 := Aside0.mk q4
      clear q1 q2 q3 q4
      go_wp2_with (fail)
      refine (VC.calls Q1.out _ (HL.out _ HB.out)).mono ?_
      rintro e_ w12 ⟨rfl, hb12⟩
      replace HVc := Aside0.mk (Kd.C_below HVc.out hb12)
      replace HB := Aside0.mk (below_step HB.out hb12)
      clear hb12
      go_wp2_with (fail)
      have hbb := bytes_below (Below.refl w12.heap.size w12) (Nat.le_refl _) 5 y
      have HBq := Aside0.mk HB.out
      replace HVc := Aside0.mk (Kd.C_below HVc.out hbb)
      replace HB := Aside0.mk (below_step HB.out hbb)
      have HC := Aside0.mk (fun (j : Nat) (hj : j < y.size) => Lib.bytesWorld_cell w12 5 y j hj)
      have HF := Aside0.mk (fun (j : Nat) (hj : j < y.size) => bytes_free w12 5 y j hj)
      have hgs : w12.heap.size < (Lib.bytesWorld w12 5 y).heap.size := by rw [Lib.bytesWorld_size]; omega
      have hgw : w.heap.size ≤ w12.heap.size := Nat.le_trans HBq.out.size (Nat.le_refl _)
      clear HBq
      clear hbb
      simp only [bytes_getD] at HC
      obtain ⟨w13, hW_⟩ : ∃ W_, Lib.bytesWorld w12 5 y = W_ := ⟨_, rfl⟩
      rw [hW_] at HVc HB HC HF hgs ⊢
      clear hW_
      obtain ⟨gb, hg_⟩ : ∃ g_, w12.heap.size = g_ := ⟨_, rfl⟩
      rw [hg_] at HC HF hgs hgw ⊢
      clear hg_
      obtain ⟨q7, q7b, q7c⟩ := q7
      have hys : ((y.size : Int) == 0) = false := beq_eq_false_iff_ne.mpr (by omega)
      refine (laws_vAt.calls A0 c0 l0 9 v9 _ HVc.out HC0.out V9.out).mono ?_
      rintro e_ w14 ⟨rfl, hb14⟩
      replace hb14 := hb14.below
      replace HVc := Aside0.mk (Kd.C_below HVc.out hb14)
      replace HB := Aside0.mk (below_step HB.out hb14)
      replace HC := Aside0.mk (fun (j : Nat) (hj : j < y.size) => (hb14.cell (p := ⟨gb, j, none⟩) hgs).trans (HC.out j hj))
      replace HF := Aside0.mk (fun (j : Nat) (hj : j < y.size) => (hb14.frozen (p := ⟨gb, j, none⟩) hgs).trans (HF.out j hj))
      replace hgs := Nat.lt_of_lt_of_le hgs hb14.size
      clear hb14 V9
      go_wp2_with (fail)
      rw [q7c]
      have hbd : Below w14.heap.size w14 w14.drew := ⟨rfl, rfl, rfl, Nat.le_refl _, fun _ _ => rfl⟩
      replace HVc := Aside0.mk (Kd.C_below HVc.out hbd)
      replace HB := Aside0.mk (below_step HB.out hbd)
      replace HC := Aside0.mk (fun (j : Nat) (hj : j < y.size) => (hbd.cell (p := ⟨gb, j, none⟩) hgs).trans (HC.out j hj))
      replace HF := Aside0.mk (fun (j : Nat) (hj : j < y.size) => (hbd.frozen (p := ⟨gb, j, none⟩) hgs).trans (HF.out j hj))
      replace hgs := Nat.lt_of_lt_of_le hgs hbd.size
      clear hbd
      obtain ⟨vo, hvo⟩ : ∃ v, (bytesOf y).getD kn 0 = v := ⟨_, rfl⟩
      have HCk := Aside0.mk (HC.out kn q7)
      rw [hvo] at HCk
      refine start_ (n := 14) (S := fun w' => w'.cell? ⟨gb, kn, none⟩ = some (.int .u8 vo)) (ds := [13]) #[false, false, false, false, false, false, false, false, false, false, false, false, false, false] (by kernel_rfl) rfl rfl (HCk.out) (fun hHeld => ?_)
      obtain ⟨wd, hW_⟩ : ∃ W_, w14.drew = W_ := ⟨_, rfl⟩; rw [hW_] at HVc HB HC HF HCk hgs hHeld ⊢; clear hW_
      refine pure_ (i := 0) (N := some 123) (v := ?_) (a' := ?_) #[true, false, false, false, false, false, false, false, false, false, false, false, false, false] rfl rfl (by kernel_rfl) (fun _ _ _ h => h) (Or.inl ⟨by rfl, ?_⟩) ?_ ?_
      rotate_left
      · intro w'
        go_simp
        with_reducible rfl
      rotate_left
      · simp only [Act.put, List.setIfInBounds_toArray, List.set_cons_zero, List.set_cons_succ, i64_w, i32_w]
        rfl
      refine pure_ (i := 1) (N := some 124) (v := ?_) (a' := ?_) #[true, true, false, false, false, false, false, false, false, false, false, false, false, false] rfl rfl (by kernel_rfl) (fun _ _ _ h => h) (Or.inl ⟨by rfl, ?_⟩) ?_ ?_
      rotate_left
      · intro w'
        go_simp
        with_reducible rfl
      rotate_left
      · simp only [Act.put, List.setIfInBounds_toArray, List.set_cons_zero, List.set_cons_succ, i64_w, i32_w]
        rfl
      refine pure_ (i := 2) (N := some 125) (v := ?_) (a' := ?_) #[true, true, true, false, false, false, false, false, false, false, false, false, false, false] rfl rfl (by kernel_rfl) (fun _ _ _ h => h) (Or.inl ⟨by rfl, ?_⟩) ?_ ?_
      rotate_left
      · intro w'
        go_simp
        with_reducible rfl
      rotate_left
      · simp only [Act.put, List.setIfInBounds_toArray, List.set_cons_zero, List.set_cons_succ, i64_w, i32_w]
        rfl
      refine pure_ (i := 3) (N := some 126) (v := ?_) (a' := ?_) #[true, true, true, true, false, false, false, false, false, false, false, false, false, false] rfl rfl (by kernel_rfl) (fun _ _ _ h => h) (Or.inl ⟨by rfl, ?_⟩) ?_ ?_
      rotate_left
      · intro w'
        go_simp
        with_reducible rfl
      rotate_left
      · simp only [Act.put, List.setIfInBounds_toArray, List.set_cons_zero, List.set_cons_succ, i64_w, i32_w]
        rfl
      refine pure_ (i := 4) (N := some 127) (v := ?_) (a' := ?_) #[true, true, true, true, true, false, false, false, false, false, false, false, false, false] rfl rfl (by kernel_rfl) (fun _ _ _ h => h) (Or.inl ⟨by rfl, ?_⟩) ?_ ?_
      rotate_left
      · intro w'
        go_simp
        with_reducible rfl
      rotate_left
      · simp only [Act.put, List.setIfInBounds_toArray, List.set_cons_zero, List.set_cons_succ, i64_w, i32_w]
        rfl
      refine pure_ (i := 6) (N := some 129) (v := ?_) (a' := ?_) #[true, true, true, true, true, false, true, false, false, false, false, false, false, false] rfl rfl (by kernel_rfl) (fun _ _ _ h => h) (Or.inl ⟨by rfl, ?_⟩) ?_ ?_
      rotate_left
      · intro w'
        go_simp
        with_reducible rfl
      rotate_left
      · simp only [Act.put, List.setIfInBounds_toArray, List.set_cons_zero, List.set_cons_succ, i64_w, i32_w]
        rfl
      refine take_ (i := 5) (N := some 128) (v := ?_) (a' := ?_) #[true, true, true, true, true, true, true, false, false, false, false, false, false, false] rfl rfl (by kernel_rfl) (fun _ _ _ h => h) (Or.inl ⟨by rfl, ?_⟩) hHeld ?_ ?_
      rotate_left
      · intro w' s0
        go_simp
        with_reducible rfl
      rotate_left
      · simp only [Act.put, List.setIfInBounds_toArray, List.set_cons_zero, List.set_cons_succ, i64_w, i32_w]
        rfl
      refine one_ (i := 7) (N := some 130) #[true, true, true, true, true, true, true, true, false, false, false, false, false, false] rfl rfl (by kernel_rfl) (by decide) (fun K hK => ?_)
      refine goes_ Tryd.func15 (by kernel_rfl) rfl #[.slice A0 l0.length c0, .int .i64 10] (by rfl) rfl rfl (by simp only [List.map_toArray, List.map_cons, List.map_nil]; rfl) ?_
      with_reducible refine (laws_vAt.calls A0 c0 l0 10 v10 _ HVc.out HC0.out V10.out).mono ?_
      rintro e_ w15 ⟨rfl, hb15⟩
      refine ⟨_, rfl, ?_⟩
      replace hb15 := hb15.below
      replace HVc := Aside0.mk (Kd.C_below HVc.out hb15)
      replace HB := Aside0.mk (below_step HB.out hb15)
      replace HC := Aside0.mk (fun (j : Nat) (hj : j < y.size) => (hb15.cell (p := ⟨gb, j, none⟩) hgs).trans (HC.out j hj))
      replace HF := Aside0.mk (fun (j : Nat) (hj : j < y.size) => (hb15.frozen (p := ⟨gb, j, none⟩) hgs).trans (HF.out j hj))
      replace hgs := Nat.lt_of_lt_of_le hgs hb15.size
      clear hb15
      replace HCk := Aside0.mk (HC.out kn q7)
      rw [hvo] at HCk
      refine hK.out _ _ (HCk.out) (fun hHeld => ?_)
      clear hK K
      refine norm_ (a' := ?_) ?_ ?_
      rotate_left
      · show Act.put _ (some 130) _ = _
        simp only [Act.put, List.setIfInBounds_toArray, List.set_cons_zero, List.set_cons_succ, i64_w, i32_w]
        rfl
      refine pure_ (i := 8) (N := some 131) (v := ?_) (a' := ?_) #[true, true, true, true, true, true, true, true, true, false, false, false, false, false] rfl rfl (by kernel_rfl) (fun _ _ _ h => h) (Or.inl ⟨by rfl, ?_⟩) ?_ ?_
      rotate_left
      · intro w'
        go_simp
        with_reducible rfl
      rotate_left
      · simp only [Act.put, List.setIfInBounds_toArray, List.set_cons_zero, List.set_cons_succ, i64_w, i32_w]
        rfl
      refine pure_ (i := 9) (N := some 132) (v := ?_) (a' := ?_) #[true, true, true, true, true, true, true, true, true, true, false, false, false, false] rfl rfl (by kernel_rfl) (fun _ _ _ h => h) (Or.inl ⟨by rfl, ?_⟩) ?_ ?_
      rotate_left
      · intro w'
        go_simp
        with_reducible rfl
      rotate_left
      · simp only [Act.put, List.setIfInBounds_toArray, List.set_cons_zero, List.set_cons_succ, i64_w, i32_w]
        rfl
      refine pure_ (i := 10) (N := some 133) (v := ?_) (a' := ?_) #[true, true, true, true, true, true, true, true, true, true, true, false, false, false] rfl rfl (by kernel_rfl) (fun _ _ _ h => h) (Or.inl ⟨by rfl, ?_⟩) ?_ ?_
      rotate_left
      · intro w'
        go_simp
        with_reducible rfl
      rotate_left
      · simp only [Act.put, List.setIfInBounds_toArray, List.set_cons_zero, List.set_cons_succ, i64_w, i32_w]
        rfl
      refine pure_ (i := 11) (N := some 134) (v := ?_) (a' := ?_) #[true, true, true, true, true, true, true, true, true, true, true, true, false, false] rfl rfl (by kernel_rfl) (fun _ _ _ h => h) (Or.inl ⟨by rfl, ?_⟩) ?_ ?_
      rotate_left
      · intro w'
        go_simp
        with_reducible rfl
      rotate_left
      · simp only [Act.put, List.setIfInBounds_toArray, List.set_cons_zero, List.set_cons_succ, i64_w, i32_w]
        rfl
      refine pure_ (i := 12) (N := some 135) (v := ?_) (a' := ?_) #[true, true, true, true, true, true, true, true, true, true, true, true, true, false] rfl rfl (by kernel_rfl) (fun _ _ _ h => h) (Or.inl ⟨by rfl, ?_⟩) ?_ ?_
      rotate_left
      · intro w'
        go_simp
        with_reducible rfl
      rotate_left
      · simp only [Act.put, List.setIfInBounds_toArray, List.set_cons_zero, List.set_cons_succ, i64_w, i32_w]
        rfl
      refine last_ (i := 13) (N := none) #[true, true, true, true, true, true, true, true, true, true, true, true, true, true] rfl rfl (by kernel_rfl) (by decide) (fun K hK => ?_)
      have c13 := HCk.out
      have f13 := HF.out kn q7
      refine skip_ (w1 := ?_) (by rfl) rfl ?_ ?_
      rotate_left
      · go_simp
        rfl
      refine hK.out _ _ ?_
      clear hK K
      refine done_ (by kernel_rfl) ?_

      rw [← hvo, hnb]
      have hrd := reads_set (fun j hj => HC.out j hj) q7 (by omega) nb
      replace HB := Aside0.mk (HB.out.setCell (p := ⟨gb, kn, none⟩) hgw (.int .u8 nb))
      clear HC HF HCk hgs hgw hvo hnb HVc
      obtain ⟨w16, hW_⟩ : ∃ W_, w15.setCell ⟨gb, kn, none⟩ (.int .u8 nb) = W_ := ⟨_, rfl⟩
      rw [hW_] at hrd HB ⊢
      clear hW_
      have kc := fun (c : Nat) => string_of_reads (P := Tryd.prog) (src := 22) (dst := 9) (e := 5) (c := c) Tryd.underlying22 Tryd.underlying5 Tryd.underlying9 hrd
      clear hrd
      go_wp2_with (fail)
      refine (VC.calls Q2.out _ (HL.out _ HB.out)).mono ?_
      rintro e_ w17 ⟨rfl, hb17⟩
      replace HB := Aside0.mk (below_step HB.out hb17)
      clear hb17
      go_wp2_with (fail)
      go_ret
      exact ⟨rfl, HB.out⟩
  | true =>
    obtain ⟨rfl, rfl⟩ := hok.out rfl
    go_wp2_with (fail)
    refine (PI.calls P4.out _ (HL.out _ HB.out)).mono ?_
    rintro e_ w11 ⟨rfl, hb11⟩
    replace HVc := Aside0.mk (Kd.C_below HVc.out hb11)
    replace HB := Aside0.mk (below_step HB.out hb11)
    clear hb11
    cases sealed_ with
    | false =>
      have hy0 : (y.toList == ([] : List UInt8)) = true := hno.out rfl
      go_wp2_with (fail)
      go_ret
      exact ⟨by first | rfl | simp [hy0], HB.out⟩
    | true =>
      obtain ⟨q1, q2, q3, q4, q5, q6, q7, hnb⟩ := hyes.out rfl
      have Q1 := Aside0.mk q1
      have Q2 := Aside0.mk q2
      have V9 := Aside0.mk q3
      have V10 := Aside0.mk q4
      clear q1 q2 q3 q4
      go_wp2_with (fail)
      refine (VC.calls Q1.out _ (HL.out _ HB.out)).mono ?_
      rintro e_ w12 ⟨rfl, hb12⟩
      replace HVc := Aside0.mk (Kd.C_below HVc.out hb12)
      replace HB := Aside0.mk (below_step HB.out hb12)
      clear hb12
      go_wp2_with (fail)
      have hbb := bytes_below (Below.refl w12.heap.size w12) (Nat.le_refl _) 5 y
      have HBq := Aside0.mk HB.out
      replace HVc := Aside0.mk (Kd.C_below HVc.out hbb)
      replace HB := Aside0.mk (below_step HB.out hbb)
      have HC := Aside0.mk (fun (j : Nat) (hj : j < y.size) => Lib.bytesWorld_cell w12 5 y j hj)
      have HF := Aside0.mk (fun (j : Nat) (hj : j < y.size) => bytes_free w12 5 y j hj)
      have hgs : w12.heap.size < (Lib.bytesWorld w12 5 y).heap.size := by rw [Lib.bytesWorld_size]; omega
      have hgw : w.heap.size ≤ w12.heap.size := Nat.le_trans HBq.out.size (Nat.le_refl _)
      clear HBq
      clear hbb
      simp only [bytes_getD] at HC
      obtain ⟨w13, hW_⟩ : ∃ W_, Lib.bytesWorld w12 5 y = W_ := ⟨_, rfl⟩
      rw [hW_] at HVc HB HC HF hgs ⊢
      clear hW_
      obtain ⟨gb, hg_⟩ : ∃ g_, w12.heap.size = g_ := ⟨_, rfl⟩
      rw [hg_] at HC HF hgs hgw ⊢
      clear hg_
      obtain ⟨q7, q7b, q7c⟩ := q7
      have hys : ((y.size : Int) == 0) = false := beq_eq_false_iff_ne.mpr (by omega)
      refine (laws_vAt.calls A0 c0 l0 9 v9 _ HVc.out HC0.out V9.out).mono ?_
      rintro e_ w14 ⟨rfl, hb14⟩
      replace hb14 := hb14.below
      replace HVc := Aside0.mk (Kd.C_below HVc.out hb14)
      replace HB := Aside0.mk (below_step HB.out hb14)
      replace HC := Aside0.mk (fun (j : Nat) (hj : j < y.size) => (hb14.cell (p := ⟨gb, j, none⟩) hgs).trans (HC.out j hj))
      replace HF := Aside0.mk (fun (j : Nat) (hj : j < y.size) => (hb14.frozen (p := ⟨gb, j, none⟩) hgs).trans (HF.out j hj))
      replace hgs := Nat.lt_of_lt_of_le hgs hb14.size
      clear hb14 V9
      go_wp2_with (fail)
      rw [q7c]
      have hbd : Below w14.heap.size w14 w14.drew := ⟨rfl, rfl, rfl, Nat.le_refl _, fun _ _ => rfl⟩
      replace HVc := Aside0.mk (Kd.C_below HVc.out hbd)
      replace HB := Aside0.mk (below_step HB.out hbd)
      replace HC := Aside0.mk (fun (j : Nat) (hj : j < y.size) => (hbd.cell (p := ⟨gb, j, none⟩) hgs).trans (HC.out j hj))
      replace HF := Aside0.mk (fun (j : Nat) (hj : j < y.size) => (hbd.frozen (p := ⟨gb, j, none⟩) hgs).trans (HF.out j hj))
      replace hgs := Nat.lt_of_lt_of_le hgs hbd.size
      clear hbd
      obtain ⟨vo, hvo⟩ : ∃ v, (bytesOf y).getD kn 0 = v := ⟨_, rfl⟩
      have HCk := Aside0.mk (HC.out kn q7)
      rw [hvo] at HCk
      refine start_ (n := 14) (S := fun w' => w'.cell? ⟨gb, kn, none⟩ = some (.int .u8 vo)) (ds := [13]) #[false, false, false, false, false, false, false, false, false, false, false, false, false, false] (by kernel_rfl) rfl rfl (HCk.out) (fun hHeld => ?_)
      obtain ⟨wd, hW_⟩ : ∃ W_, w14.drew = W_ := ⟨_, rfl⟩; rw [hW_] at HVc HB HC HF HCk hgs hHeld ⊢; clear hW_
      refine pure_ (i := 0) (N := some 123) (v := ?_) (a' := ?_) #[true, false, false, false, false, false, false, false, false, false, false, false, false, false] rfl rfl (by kernel_rfl) (fun _ _ _ h => h) (Or.inl ⟨by rfl, ?_⟩) ?_ ?_
      rotate_left
      · intro w'
        go_simp
        with_reducible rfl
      rotate_left
      · simp only [Act.put, List.setIfInBounds_toArray, List.set_cons_zero, List.set_cons_succ, i64_w, i32_w]
        rfl
      refine pure_ (i := 1) (N := some 124) (v := ?_) (a' := ?_) #[true, true, false, false, false, false, false, false, false, false, false, false, false, false] rfl rfl (by kernel_rfl) (fun _ _ _ h => h) (Or.inl ⟨by rfl, ?_⟩) ?_ ?_
      rotate_left
      · intro w'
        go_simp
        with_reducible rfl
      rotate_left
      · simp only [Act.put, List.setIfInBounds_toArray, List.set_cons_zero, List.set_cons_succ, i64_w, i32_w]
        rfl
      refine pure_ (i := 2) (N := some 125) (v := ?_) (a' := ?_) #[true, true, true, false, false, false, false, false, false, false, false, false, false, false] rfl rfl (by kernel_rfl) (fun _ _ _ h => h) (Or.inl ⟨by rfl, ?_⟩) ?_ ?_
      rotate_left
      · intro w'
        go_simp
        with_reducible rfl
      rotate_left
      · simp only [Act.put, List.setIfInBounds_toArray, List.set_cons_zero, List.set_cons_succ, i64_w, i32_w]
        rfl
      refine pure_ (i := 3) (N := some 126) (v := ?_) (a' := ?_) #[true, true, true, true, false, false, false, false, false, false, false, false, false, false] rfl rfl (by kernel_rfl) (fun _ _ _ h => h) (Or.inl ⟨by rfl, ?_⟩) ?_ ?_
      rotate_left
      · intro w'
        go_simp
        with_reducible rfl
      rotate_left
      · simp only [Act.put, List.setIfInBounds_toArray, List.set_cons_zero, List.set_cons_succ, i64_w, i32_w]
        rfl
      refine pure_ (i := 4) (N := some 127) (v := ?_) (a' := ?_) #[true, true, true, true, true, false, false, false, false, false, false, false, false, false] rfl rfl (by kernel_rfl) (fun _ _ _ h => h) (Or.inl ⟨by rfl, ?_⟩) ?_ ?_
      rotate_left
      · intro w'
        go_simp
        with_reducible rfl
      rotate_left
      · simp only [Act.put, List.setIfInBounds_toArray, List.set_cons_zero, List.set_cons_succ, i64_w, i32_w]
        rfl
      refine pure_ (i := 6) (N := some 129) (v := ?_) (a' := ?_) #[true, true, true, true, true, false, true, false, false, false, false, false, false, false] rfl rfl (by kernel_rfl) (fun _ _ _ h => h) (Or.inl ⟨by rfl, ?_⟩) ?_ ?_
      rotate_left
      · intro w'
        go_simp
        with_reducible rfl
      rotate_left
      · simp only [Act.put, List.setIfInBounds_toArray, List.set_cons_zero, List.set_cons_succ, i64_w, i32_w]
        rfl
      refine take_ (i := 5) (N := some 128) (v := ?_) (a' := ?_) #[true, true, true, true, true, true, true, false, false, false, false, false, false, false] rfl rfl (by kernel_rfl) (fun _ _ _ h => h) (Or.inl ⟨by rfl, ?_⟩) hHeld ?_ ?_
      rotate_left
      · intro w' s0
        go_simp
        with_reducible rfl
      rotate_left
      · simp only [Act.put, List.setIfInBounds_toArray, List.set_cons_zero, List.set_cons_succ, i64_w, i32_w]
        rfl
      refine one_ (i := 7) (N := some 130) #[true, true, true, true, true, true, true, true, false, false, false, false, false, false] rfl rfl (by kernel_rfl) (by decide) (fun K hK => ?_)
      refine goes_ Tryd.func15 (by kernel_rfl) rfl #[.slice A0 l0.length c0, .int .i64 10] (by rfl) rfl rfl (by simp only [List.map_toArray, List.map_cons, List.map_nil]; rfl) ?_
      with_reducible refine (laws_vAt.calls A0 c0 l0 10 v10 _ HVc.out HC0.out V10.out).mono ?_
      rintro e_ w15 ⟨rfl, hb15⟩
      refine ⟨_, rfl, ?_⟩
      replace hb15 := hb15.below
      replace HVc := Aside0.mk (Kd.C_below HVc.out hb15)
      replace HB := Aside0.mk (below_step HB.out hb15)
      replace HC := Aside0.mk (fun (j : Nat) (hj : j < y.size) => (hb15.cell (p := ⟨gb, j, none⟩) hgs).trans (HC.out j hj))
      replace HF := Aside0.mk (fun (j : Nat) (hj : j < y.size) => (hb15.frozen (p := ⟨gb, j, none⟩) hgs).trans (HF.out j hj))
      replace hgs := Nat.lt_of_lt_of_le hgs hb15.size
      clear hb15
      replace HCk := Aside0.mk (HC.out kn q7)
      rw [hvo] at HCk
      refine hK.out _ _ (HCk.out) (fun hHeld => ?_)
      clear hK K
      refine norm_ (a' := ?_) ?_ ?_
      rotate_left
      · show Act.put _ (some 130) _ = _
        simp only [Act.put, List.setIfInBounds_toArray, List.set_cons_zero, List.set_cons_succ, i64_w, i32_w]
        rfl
      refine pure_ (i := 8) (N := some 131) (v := ?_) (a' := ?_) #[true, true, true, true, true, true, true, true, true, false, false, false, false, false] rfl rfl (by kernel_rfl) (fun _ _ _ h => h) (Or.inl ⟨by rfl, ?_⟩) ?_ ?_
      rotate_left
      · intro w'
        go_simp
        with_reducible rfl
      rotate_left
      · simp only [Act.put, List.setIfInBounds_toArray, List.set_cons_zero, List.set_cons_succ, i64_w, i32_w]
        rfl
      refine pure_ (i := 9) (N := some 132) (v := ?_) (a' := ?_) #[true, true, true, true, true, true, true, true, true, true, false, false, false, false] rfl rfl (by kernel_rfl) (fun _ _ _ h => h) (Or.inl ⟨by rfl, ?_⟩) ?_ ?_
      rotate_left
      · intro w'
        go_simp
        with_reducible rfl
      rotate_left
      · simp only [Act.put, List.setIfInBounds_toArray, List.set_cons_zero, List.set_cons_succ, i64_w, i32_w]
        rfl
      refine pure_ (i := 10) (N := some 133) (v := ?_) (a' := ?_) #[true, true, true, true, true, true, true, true, true, true, true, false, false, false] rfl rfl (by kernel_rfl) (fun _ _ _ h => h) (Or.inl ⟨by rfl, ?_⟩) ?_ ?_
      rotate_left
      · intro w'
        go_simp
        with_reducible rfl
      rotate_left
      · simp only [Act.put, List.setIfInBounds_toArray, List.set_cons_zero, List.set_cons_succ, i64_w, i32_w]
        rfl
      refine pure_ (i := 11) (N := some 134) (v := ?_) (a' := ?_) #[true, true, true, true, true, true, true, true, true, true, true, true, false, false] rfl rfl (by kernel_rfl) (fun _ _ _ h => h) (Or.inl ⟨by rfl, ?_⟩) ?_ ?_
      rotate_left
      · intro w'
        go_simp
        with_reducible rfl
      rotate_left
      · simp only [Act.put, List.setIfInBounds_toArray, List.set_cons_zero, List.set_cons_succ, i64_w, i32_w]
        rfl
      refine pure_ (i := 12) (N := some 135) (v := ?_) (a' := ?_) #[true, true, true, true, true, true, true, true, true, true, true, true, true, false] rfl rfl (by kernel_rfl) (fun _ _ _ h => h) (Or.inl ⟨by rfl, ?_⟩) ?_ ?_
      rotate_left
      · intro w'
        go_simp
        with_reducible rfl
      rotate_left
      · simp only [Act.put, List.setIfInBounds_toArray, List.set_cons_zero, List.set_cons_succ, i64_w, i32_w]
        rfl
      refine last_ (i := 13) (N := none) #[true, true, true, true, true, true, true, true, true, true, true, true, true, true] rfl rfl (by kernel_rfl) (by decide) (fun K hK => ?_)
      have c13 := HCk.out
      have f13 := HF.out kn q7
      refine skip_ (w1 := ?_) (by rfl) rfl ?_ ?_
      rotate_left
      · go_simp
        rfl
      refine hK.out _ _ ?_
      clear hK K
      refine done_ (by kernel_rfl) ?_

      rw [← hvo, hnb]
      have hrd := reads_set (fun j hj => HC.out j hj) q7 (by omega) nb
      replace HB := Aside0.mk (HB.out.setCell (p := ⟨gb, kn, none⟩) hgw (.int .u8 nb))
      clear HC HF HCk hgs hgw hvo hnb HVc
      obtain ⟨w16, hW_⟩ : ∃ W_, w15.setCell ⟨gb, kn, none⟩ (.int .u8 nb) = W_ := ⟨_, rfl⟩
      rw [hW_] at hrd HB ⊢
      clear hW_
      have kc := fun (c : Nat) => string_of_reads (P := Tryd.prog) (src := 22) (dst := 9) (e := 5) (c := c) Tryd.underlying22 Tryd.underlying5 Tryd.underlying9 hrd
      clear hrd
      go_wp2_with (fail)
      refine (VC.calls Q2.out _ (HL.out _ HB.out)).mono ?_
      rintro e_ w17 ⟨rfl, hb17⟩
      replace HB := Aside0.mk (below_step HB.out hb17)
      clear hb17
      go_wp2_with (fail)
      go_ret
      exact ⟨rfl, HB.out⟩
/-- THE ONE PURE STATEMENT of laws_FnStrings. -/
def laws_FnStrings.Pure : Prop := ∀ (l0 : List Int), l0.length ≤ maxLen → l0.length * 1 ≤ 140737488351232 → (∀ x ∈ l0, (Lit.int .u8 x).wf = true) → laws_vBig.f l0 = some true ∨ laws_vBig.f l0 = some false ∧ ∃ (s t x y z2 : ByteArray) (n m back v9 v10 nb : Int) (kn : Nat) (ok fine there sealed_ : Bool), laws_FnStrings.Facts l0 s t x y z2 n m back v9 v10 nb kn ok fine there sealed_
set_option maxHeartbeats 8000000 in
set_option maxRecDepth 100000 in
theorem laws_FnStrings.big (A0 : Option Addr) (c0 : Nat) (l0 : List Int) (w : World) (hr0 : Kd.C (Kd.int .u8) w A0 l0.length l0) (hc0 : l0.length ≤ c0) (HBG : laws_vBig.f l0 = some true) :
    Calls Tryd.prog 3 #[.slice A0 l0.length c0] w fun e w' => e = .returned (.bool true) ∧ Below w.heap.size w w' := by
  have HG := Aside0.mk HBG
  clear HBG
  go_enter Tryd.func3, Tryd.ntmps3
  go_wp2_with (fail)
  refine (laws_vBig.calls A0 c0 l0 true _ hr0 hc0 HG.out).mono ?_
  rintro e_ w1 ⟨rfl, hb1⟩
  replace hb1 := hb1.below
  go_wp2_with (fail)
  go_ret
  exact ⟨rfl, hb1⟩
theorem laws_FnStrings.walk (P : laws_FnStrings.Pure) (a0 : Option Addr) (len0 cap0 : Nat) (z0 : List Int) (w : World) (hlib : Lib4 w) (w0 : (a0 = none ∧ len0 = 0 ∧ cap0 = 0 ∧ z0 = []) ∨ ∃ x, a0 = some x ∧ len0 ≤ cap0 ∧ cap0 ≤ maxLen ∧ z0.length = cap0 ∧ (∀ i, i < z0.length → w.cell? (x.add i) = some (.int .u8 (z0.getD i 0))) ∧ ∀ n ∈ z0, (Lit.int .u8 n).wf = true) (y0 : len0 * 1 ≤ 140737488351232) :
    Calls Tryd.prog 3 #[.slice a0 len0 cap0] w fun e w' => e = .returned (.bool true) ∧ Below w.heap.size w w' := by
  obtain ⟨l0, rfl, hr0, hm0, hw0, hc0⟩ := ReadsInt.ofRowC w0
  rcases P l0 hm0 y0 hw0 with h | ⟨h, s, t, x, y, z2, n, m, back, v9, v10, nb, kn, ok, fine, there, sealed_, F⟩
  · exact laws_FnStrings.big _ _ l0 w (Kd.C_of_reads (d := (0 : Int)) (h1 := fun _ => rfl) hr0) hc0 h
  · exact laws_FnStrings.own s t x y z2 n m back v9 v10 nb kn ok fine there sealed_ _ _ l0 w hlib (Kd.C_of_reads (d := (0 : Int)) (h1 := fun _ => rfl) hr0) hc0 h F
end

end Go.Proofs.YtlkddcabjcejdaaDoor.MFnStrings
