/- The functions that FnStackWords comes to, with a walk for each. Made by this session's own program (wip/tools/mk.py), in the form of the kit's print; walks named in NOTES.md were written by hand. -/
import Derived.Test.YtlkddcabjcejdaaMFnStackWordsx0
import Derived.Test.YtlkddcabjcejdaaMFnStackWordsx1
import Derived.Test.YtlkddcabjcejdaaMFnStackWordsx2
namespace Go.Proofs.Ytlkddcabjcejdaa.MFnStackWords
open Go.RowKit Go.Proofs.YtlkddcabjcejdaaW.PrintWords Go.Proofs.YtlkddcabjcejdaaW.PrintLast Go.Proofs.YtlkddcabjcejdaaW.PrintMore
attribute [local go_sem] max2_int min2_int max_two min_two max_three min_three max_four min_four   -- for this text's walks alone
set_option linter.unusedVariables false
set_option linter.unusedSimpArgs false

/-! ### spec_l2Run: function 152 -/
def spec_l2Run.l0 : Nat → List Int → ByteArray → List Int → List Int → Int → Int → Option (List Int)
 | 0, _, _, _, _, _, _ => none
 | k + 1, x0, x1, x5, x6, x7, x8 => if x8 < (x1.size : Int) then (if 0 ≤ x8 then (if (bt x1 x8) = 73 then (if 0 ≤ x7 then (if x7 < (x0.length : Int) then (if x6.length < 17592186044416 then (spec_l2Run.l0 k x0 x1 x5 (x6 ++ [rd x0 x7]) (wrap64 (x7 + 1)) (wrap64 (x8 + 1))) else (none)) else (none)) else (none)) else (if 0 ≤ (wrap64 ((x6.length : Int) - 1)) then (if (wrap64 ((x6.length : Int) - 1)) < (x6.length : Int) then (if x5.length < 17592186044416 then (if (wrap64 ((x6.length : Int) - 1)) ≤ (x6.length : Int) then (spec_l2Run.l0 k x0 x1 (x5 ++ [rd x6 (wrap64 ((x6.length : Int) - 1))]) (x6.take ((wrap64 ((x6.length : Int) - 1)) : Int).toNat) x7 (wrap64 (x8 + 1))) else (none)) else (none)) else (none)) else (none))) else (none)) else (some x5)
def spec_l2Run.f (k : Nat) (l0 : List Int) (a1 : ByteArray) : Option (List Int) := spec_l2Run.l0 k l0 a1 (([] : List Int)) (([] : List Int)) 0 0
set_option maxHeartbeats 8000000 in
set_option maxRecDepth 100000 in
theorem spec_l2Run.calls (k : Nat) (A0 : Option Addr) (c0 : Nat) (l0 : List Int) (a1 : ByteArray) (r : List Int) (w : World) (hr0 : Kd.C (Kd.int .i64) w A0 l0.length l0) (hc0 : l0.length ≤ c0) (h : spec_l2Run.f k l0 a1 = some r) :
 Calls Try.prog 152 #[.slice A0 l0.length c0, .string a1] w fun e w' => ∃ v0_ : Value, e = .returned (v0_) ∧ Kd.R (Kd.int .i64) 3 w' w.heap.size (fun _ => True) v0_ r ∧ Below w.heap.size w w' := by
 have HR0 := zk hr0
 have HC0 := zk hc0
 clear hr0 hc0
 have HB := zk (Below.refl w.heap.size w)
 have H : (spec_l2Run.l0 k l0 a1 (([] : List Int)) (([] : List Int)) 0 0) = some r := h
 clear h
 obtain ⟨y195, hy195⟩ : ∃ y_ : List Int, y_ = (([] : List Int)) := ⟨_, rfl⟩
 replace H : (spec_l2Run.l0 k l0 a1 y195 (([] : List Int)) 0 0) = some r := by first | (rw [hy195]; with_reducible exact H) | (have H2_ := (Option.bind_some _ _).symm.trans H; rw [hy195]; with_reducible exact H2_) | (have H2_ := (Option.bind_some _ _).symm.trans H; with_reducible exact H2_) | with_reducible exact H | (rw [hy195]; exact H) | exact H
 have Ny195 := zk hy195
 clear hy195
 obtain ⟨y198, hy198⟩ : ∃ y_ : List Int, y_ = (([] : List Int)) := ⟨_, rfl⟩
 replace H : (spec_l2Run.l0 k l0 a1 y195 y198 0 0) = some r := by first | (rw [hy198]; with_reducible exact H) | (have H2_ := (Option.bind_some _ _).symm.trans H; rw [hy198]; with_reducible exact H2_) | (have H2_ := (Option.bind_some _ _).symm.trans H; with_reducible exact H2_) | with_reducible exact H | (rw [hy198]; exact H) | exact H
 have Ny198 := zk hy198
 clear hy198
 have H' := zk H
 clear H
 go_enter Try.func152, Try.ntmps152
 go_wp2_with (first | ((with_reducible refine gate_dst (N := 9) rfl ?_); refine Kd.R_lit (Kd.int .i64) _ 3 ?hg (N := 9) ?hd (xs := ([] : List Int)) (inner := []) (ok := fun _ => True) (okp := fun _ => True) ?hr ?hp (fun _ hk => hk) trivial (Below.refl _ _) (Nat.le_refl _) (by simp) ?_; (case hd => rfl); (case hg => rfl); (case hr => first | (go_simp; done) | (go_simp; rfl)); (case hp => exact (Reps.none _ _)); intro v196 w3 ho4 hb hg_ hnew_; clear hg_ hnew_; (first | rw [← Ny195.out] at ho4 | (simp only [Int.reduceToNat] at ho4; rw [← Ny195.out] at ho4)); have n0_ := zk (Kd.R_lower ho4 (below_size (by repeat (first | exact HB.out | apply za | apply zd | apply ze)))); have n1_ := zk (below_step (by repeat (first | exact HB.out | apply za | apply zd | apply ze)) hb); clear HB; have HO197 := n0_; have HB := n1_; clear n0_ n1_; clear hb ho4) | ((with_reducible refine gate_dst (N := 10) rfl ?_); refine Kd.R_lit (Kd.int .i64) _ 3 ?hg (N := 10) ?hd (xs := ([] : List Int)) (inner := []) (ok := fun _ => True) (okp := fun _ => True) ?hr ?hp (fun _ hk => hk) trivial (Below.refl _ _) (Nat.le_refl _) (by simp) ?_; (case hd => rfl); (case hg => rfl); (case hr => first | (go_simp; done) | (go_simp; rfl)); (case hp => exact (Reps.none _ _)); intro v199 w5 ho6 hb hg_ hnew_; clear hg_ hnew_; (first | rw [← Ny198.out] at ho6 | (simp only [Int.reduceToNat] at ho6; rw [← Ny198.out] at ho6)); have n0_ := zk (Kd.R_elder' (by (with_reducible repeat (first | apply zs | apply zr | apply zt)); exact HO197.out) (Kd.R_base ho6) hb); have n1_ := zk (Kd.R_lower (Kd.R_new' ho6 (Kd.R_lt (by (with_reducible repeat (first | apply zs | apply zr | apply zt)); exact HO197.out))) (below_size (by repeat (first | exact HB.out | apply za | apply zd | apply ze)))); have n2_ := zk (below_step (by repeat (first | exact HB.out | apply za | apply zd | apply ze)) hb); clear HO197; clear HB; have HO197 := n0_; have HO200 := n1_; have HB := n2_; clear n0_ n1_ n2_; clear hb ho6))
 go_loopg [5, 6, 7, 8] k (fun kq v5 v6 v7 v8 w' => ∃ (x5_1 : List Int) (x6_1 : List Int) (x7_1 : Int) (x8_1 : Int), v7 = .int .i64 x7_1 ∧ v8 = .int .i64 x8_1 ∧ Aside0 (spec_l2Run.l0 kq l0 a1 x5_1 x6_1 x7_1 x8_1 = some r) ∧ Aside0 (kq ≤ k) ∧ Aside0 (Kd.R (Kd.int .i64) 3 w' w.heap.size (fun k_ => some k_ ≠ (v6 : Value).ownBlock) v5 x5_1) ∧ Aside0 (Kd.R (Kd.int .i64) 3 w' w.heap.size (fun k_ => some k_ ≠ (v5 : Value).ownBlock) v6 x6_1) ∧ Aside0 (Below w.heap.size w w'))
 case atStart => exact ⟨(y195), (y198), (0), (0), (by first | rfl | (simp; done) | (simp [*]; done)), (by first | rfl | (simp; done) | (simp [*]; done)), H', ⟨Nat.le_refl _⟩, ⟨by (with_reducible repeat (first | apply zs | apply zr | apply zt)); exact Kd.R_mono HO197.out (fun _ hk => hk.2)⟩, ⟨by (with_reducible repeat (first | apply zs | apply zr | apply zt)); exact Kd.R_mono HO200.out (fun _ hk => hk.2)⟩, ⟨by repeat (first | exact HB.out | apply za | apply zd | apply ze)⟩⟩
 case round =>
  clear H'
  try clear c1
  try clear p2
  obtain ⟨x5_1, x6_1, x7_1, x8_1, rfl, rfl, HA, HK1, HO_5, HO_6, HB⟩ := hrel
  cases gk with
  | zero => exact absurd HA.out (by simp [spec_l2Run.l0])
  | succ k1 =>
   have H := HA.out
   clear HA
   simp only [spec_l2Run.l0] at H
   by_cases c7 : x8_1 < (a1.size : Int)
   · rw [if_pos c7] at H
     have c7b0 : decide (x8_1 < (a1.size : Int)) = true := decide_eq_true c7
     clear c7
     by_cases c8 : 0 ≤ x8_1
     · rw [if_pos c8] at H
       have c8b0 : decide (0 ≤ x8_1) = true := decide_eq_true c8
       clear c8
       by_cases c10 : (bt a1 x8_1) = 73
       · rw [if_pos c10] at H
         have c10b0 : ((bt a1 x8_1) == 73) = true := beq_iff_eq.mpr c10
         have c10b1 : ((bt a1 x8_1) != 73) = false := bne_eq_false_iff_eq.mpr c10
         clear c10
         by_cases c11 : 0 ≤ x7_1
         · rw [if_pos c11] at H
           have c11b0 : decide (0 ≤ x7_1) = true := decide_eq_true c11
           clear c11
           by_cases c12 : x7_1 < (l0.length : Int)
           · rw [if_pos c12] at H
             have c12b0 : decide (x7_1 < (l0.length : Int)) = true := decide_eq_true c12
             clear c12
             by_cases c13 : x6_1.length < 17592186044416
             · rw [if_pos c13] at H
               have LMc13 := zk c13
               clear c13
               obtain ⟨y202, hy202⟩ : ∃ y_ : List Int, y_ = (x6_1 ++ [rd l0 x7_1]) := ⟨_, rfl⟩
               replace H : (spec_l2Run.l0 k1 l0 a1 x5_1 y202 (wrap64 (x7_1 + 1)) (wrap64 (x8_1 + 1))) = some r := by first | (rw [hy202]; with_reducible exact H) | (have H2_ := (Option.bind_some _ _).symm.trans H; rw [hy202]; with_reducible exact H2_) | (have H2_ := (Option.bind_some _ _).symm.trans H; with_reducible exact H2_) | with_reducible exact H | (rw [hy202]; exact H) | exact H
               have Ny202 := zk hy202
               clear hy202
               have H' := zk H
               clear H
               have p9 : 0 ≤ (x8_1 : Int) := zo (by assumption)
               have q9 : x8_1 < (a1.size : Int) := zo (by assumption)
               have hx9 := bt_at a1 x8_1
               replace p9 := eq_true p9
               replace q9 := eq_true q9
               have p201 : 0 ≤ (x7_1 : Int) := zo (by assumption)
               have q201 : x7_1 < (l0.length : Int) := zo (by assumption)
               obtain ⟨ad201, e201, hx201_0⟩ := Kd.at_int HR0.out x7_1 p201 q201
               cases e201
               replace hx201_0 := (HB.out.cell (World.block_lt_of_cell? w _ hx201_0)).trans hx201_0
               replace p201 := eq_true p201
               replace q201 := eq_true q201
               go_wp2_with (first | ((with_reducible refine gate_builtin (b := .append) (xs := #[.tmp 21, .tmp 26]) rfl ?_); at_builtin; refine Kd.R_append (Kd.int .i64) (w0 := w) w.heap.size rfl (.tmp 21) (.tmp 26) 22 3 (.int .i64 0) 8 rfl Try.underlying22 info3 rfl (by decide) (by omega) u6 x6_1 (rd l0 x7_1) [.int .i64 (rd l0 x7_1)] (fun k_ => some k_ ≠ (u5 : Value).ownBlock) (fun _ => False) rfl rfl ?aP (fun _ hk => hk.elim) ?aF ?aO ?aB ?aS ?aL ?_; (case aP => exact rfl); (case aB => exact (by repeat (first | exact HB.out | apply za | apply zd | apply ze))); (case aF => exact (fun k_ hk => Kd.fresh' (Kd.R_lt (by (with_reducible repeat (first | apply zs | apply zr | apply zt)); exact HO_5.out)) k_ hk)); (case aO => exact (by (with_reducible repeat (first | apply zs | apply zr | apply zt)); exact HO_6.out)); (case aS => exact (below_size (by repeat (first | exact HB.out | apply za | apply zd | apply ze)))); (case aL => have := LMc13.out; omega); intro v203 w14 ho hb hg hat; rw [← Ny202.out] at ho; have n0_ := zk (Kd.R_after (ok := (fun _ => True)) (by (with_reducible repeat (first | apply zs | apply zr | apply zt)); first | exact Kd.R_mono HO_5.out (fun _ hk => ⟨trivial, hk⟩) | exact Kd.R_mono HO_5.out (fun k_ hk => by (have own_ : ∀ (A : Option Addr) (n c : Nat), (Value.slice A n c).ownBlock = A.map Addr.block := fun A n c => by cases A <;> rfl); simp only [own_] at hk ⊢; exact ⟨trivial, hk⟩)) hg hat); have n1_ := zk (hb); have n2_ := zk (ho); clear HO_5; clear HB; clear HO_6; have HO_5 := n0_; have HB := n1_; have HO204 := n2_; clear n0_ n1_ n2_; clear ho hb hg hat))
               go_roundg k1
               case measure => have := HK1.out; omega
               case rel => exact ⟨(x5_1), (y202), (wrap64 (x7_1 + 1)), (wrap64 (x8_1 + 1)), (by first | rfl | (simp; done) | (simp [*]; done)), (by first | rfl | (simp; done) | (simp [*]; done)), H', ⟨by have := HK1.out; omega⟩, ⟨by (with_reducible repeat (first | apply zs | apply zr | apply zt)); exact Kd.R_mono HO_5.out (fun _ hk => hk.2)⟩, ⟨by (with_reducible repeat (first | apply zs | apply zr | apply zt)); exact HO204.out⟩, ⟨by repeat (first | exact HB.out | apply za | apply zd | apply ze)⟩⟩
             · rw [if_neg c13] at H
               exact absurd H (by simp)
           · rw [if_neg c12] at H
             exact absurd H (by simp)
         · rw [if_neg c11] at H
           exact absurd H (by simp)
       · rw [if_neg c10] at H
         have c10b0 : ((bt a1 x8_1) == 73) = false := beq_eq_false_iff_ne.mpr c10
         have c10b1 : ((bt a1 x8_1) != 73) = true := bne_iff_ne.mpr c10
         obtain ⟨ji15, hji15⟩ : ∃ j_ : Int, (wrap64 ((x6_1.length : Int) - 1)) = j_ := ⟨_, rfl⟩
         replace H : (if 0 ≤ (ji15) then (if (ji15) < (x6_1.length : Int) then (if x5_1.length < 17592186044416 then (if (ji15) ≤ (x6_1.length : Int) then (spec_l2Run.l0 k1 l0 a1 (x5_1 ++ [rd x6_1 (ji15)]) (x6_1.take ((ji15) : Int).toNat) x7_1 (wrap64 (x8_1 + 1))) else (none)) else (none)) else (none)) else (none)) = some r := by first | (rw [hji15] at H; exact H) | (simp only [hji15] at H ⊢; exact H)
         have hji15w : (IntKind.i64.wrap ((x6_1.length : Int) - 1)) = ji15 := (i64_w _).trans hji15
         by_cases c16 : 0 ≤ (ji15)
         · rw [if_pos c16] at H
           have c16b0 : decide (0 ≤ (ji15)) = true := decide_eq_true c16
           clear c16
           by_cases c17 : (ji15) < (x6_1.length : Int)
           · rw [if_pos c17] at H
             have c17b0 : decide ((ji15) < (x6_1.length : Int)) = true := decide_eq_true c17
             clear c17
             by_cases c18 : x5_1.length < 17592186044416
             · rw [if_pos c18] at H
               have LMc18 := zk c18
               clear c18
               obtain ⟨y206, hy206⟩ : ∃ y_ : List Int, y_ = (x5_1 ++ [rd x6_1 (ji15)]) := ⟨_, rfl⟩
               replace H : (if (ji15) ≤ (x6_1.length : Int) then (spec_l2Run.l0 k1 l0 a1 y206 (x6_1.take ((ji15) : Int).toNat) x7_1 (wrap64 (x8_1 + 1))) else (none)) = some r := by first | (rw [hy206]; with_reducible exact H) | (have H2_ := (Option.bind_some _ _).symm.trans H; rw [hy206]; with_reducible exact H2_) | (have H2_ := (Option.bind_some _ _).symm.trans H; with_reducible exact H2_) | with_reducible exact H | (rw [hy206]; exact H) | exact H
               have Ny206 := zk hy206
               clear hy206
               by_cases c19 : (ji15) ≤ (x6_1.length : Int)
               · rw [if_pos c19] at H
                 have c19b0 := eq_true c19
                 have c19b1 : decide ((ji15) ≤ (x6_1.length : Int)) = true := decide_eq_true c19
                 clear c19
                 obtain ⟨y209, hy209⟩ : ∃ y_ : List Int, y_ = (x6_1.take ((ji15) : Int).toNat) := ⟨_, rfl⟩
                 replace H : (spec_l2Run.l0 k1 l0 a1 y206 y209 x7_1 (wrap64 (x8_1 + 1))) = some r := by first | (rw [hy209]; with_reducible exact H) | (have H2_ := (Option.bind_some _ _).symm.trans H; rw [hy209]; with_reducible exact H2_) | (have H2_ := (Option.bind_some _ _).symm.trans H; with_reducible exact H2_) | with_reducible exact H | (rw [hy209]; exact H) | exact H
                 have Ny209 := zk hy209
                 clear hy209
                 have H' := zk H
                 clear H
                 have p9 : 0 ≤ (x8_1 : Int) := zo (by assumption)
                 have q9 : x8_1 < (a1.size : Int) := zo (by assumption)
                 have hx9 := bt_at a1 x8_1
                 replace p9 := eq_true p9
                 replace q9 := eq_true q9
                 obtain ⟨Ao20, co20, eo20⟩ := Kd.R_slice HO_6.out
                 subst eo20
                 have p205 : 0 ≤ ((ji15) : Int) := zo (by assumption)
                 have q205 : (ji15) < (x6_1.length : Int) := zo (by assumption)
                 obtain ⟨ad205, e205, hx205_0⟩ := Kd.at_int (Kd.R_reads' HO_6.out).2.2 (ji15) p205 q205
                 cases e205
                 replace p205 := eq_true p205
                 replace q205 := eq_true q205
                 go_wp2_with (first | ((with_reducible refine gate_builtin (b := .append) (xs := #[.tmp 30, .tmp 37]) rfl ?_); at_builtin; refine Kd.R_append (Kd.int .i64) (w0 := w) w.heap.size rfl (.tmp 30) (.tmp 37) 22 3 (.int .i64 0) 8 rfl Try.underlying22 info3 rfl (by decide) (by omega) u5 x5_1 (rd x6_1 (ji15)) [.int .i64 (rd x6_1 (ji15))] (fun k_ => some k_ ≠ (.slice (some ad205) x6_1.length co20 : Value).ownBlock) (fun _ => False) rfl rfl ?aP (fun _ hk => hk.elim) ?aF ?aO ?aB ?aS ?aL ?_; (case aP => exact rfl); (case aB => exact (by repeat (first | exact HB.out | apply za | apply zd | apply ze))); (case aF => exact (fun k_ hk => Kd.fresh' (Kd.R_lt (by (with_reducible repeat (first | apply zs | apply zr | apply zt)); exact HO_6.out)) k_ hk)); (case aO => exact (by (with_reducible repeat (first | apply zs | apply zr | apply zt)); exact HO_5.out)); (case aS => exact (below_size (by repeat (first | exact HB.out | apply za | apply zd | apply ze)))); (case aL => have := LMc18.out; omega); intro v207 w21 ho hb hg hat; rw [← Ny206.out] at ho; have n0_ := zk (Kd.R_after (ok := (fun _ => True)) (by (with_reducible repeat (first | apply zs | apply zr | apply zt)); first | exact Kd.R_mono HO_6.out (fun _ hk => ⟨trivial, hk⟩) | exact Kd.R_mono HO_6.out (fun k_ hk => by (have own_ : ∀ (A : Option Addr) (n c : Nat), (Value.slice A n c).ownBlock = A.map Addr.block := fun A n c => by cases A <;> rfl); simp only [own_] at hk ⊢; exact ⟨trivial, hk⟩)) hg hat); have n1_ := zk (hb); have n2_ := zk (ho); clear HO_6; clear HB; clear HO_5; have HO_6 := n0_; have HB := n1_; have HO208 := n2_; clear n0_ n1_ n2_; clear ho hb hg hat; have q22 : ((ji15) : Int) ≤ ((x6_1.length : Int) : Int) := zo (by assumption); obtain ⟨i022, hi022, _, hsz22, _⟩ := info_parts info3; have hcut22 := cut_to (P := Try.prog) 22 3 .i64 Try.underlying22 hi022 (some ad205) x6_1.length co20 (ji15) (zo (by assumption)) q22 (Kd.R_reads' HO_6.out).2.1; have hr22 := Kd.R_take (m := ((ji15) : Int).toNat) HO_6.out (by omega); have hy22 : y209.length = ((ji15) : Int).toNat := (by rw [Ny209.out, List.length_take]; omega); rw [← Ny209.out] at hr22; rw [← hy22] at hr22 hcut22; clear hy22 hi022 hsz22 HO_6; have HO211 := zk hr22; clear hr22; replace q22 := eq_true q22))
                 go_roundg k1
                 case measure => have := HK1.out; omega
                 case rel => exact ⟨(y206), (y209), (x7_1), (wrap64 (x8_1 + 1)), (by first | rfl | (simp; done) | (simp [*]; done)), (by first | rfl | (simp; done) | (simp [*]; done)), H', ⟨by have := HK1.out; omega⟩, ⟨by (with_reducible repeat (first | apply zs | apply zr | apply zt)); exact HO208.out⟩, ⟨by (with_reducible repeat (first | apply zs | apply zr | apply zt)); exact Kd.R_mono HO211.out (fun _ hk => hk.2)⟩, ⟨by repeat (first | exact HB.out | apply za | apply zd | apply ze)⟩⟩
               · rw [if_neg c19] at H
                 exact absurd H (by simp)
             · rw [if_neg c18] at H
               exact absurd H (by simp)
           · rw [if_neg c17] at H
             exact absurd H (by simp)
         · rw [if_neg c16] at H
           exact absurd H (by simp)
     · rw [if_neg c8] at H
       exact absurd H (by simp)
   · rw [if_neg c7] at H
     have c7b0 : decide (x8_1 < (a1.size : Int)) = false := decide_eq_false c7
     clear c7
     obtain rfl := Option.some.inj H
     go_wp2
     go_ret
     exact ⟨_, by first | rfl | (simp [errW_none, errW_some] <;> rfl) | (simp [*, errW_none, errW_some] <;> rfl), by (with_reducible repeat (first | apply zs | apply zr | apply zt)); exact Kd.R_mono HO_5.out (fun _ hk => trivial), by repeat (first | exact HB.out | apply za | apply zd | apply ze)⟩

/-! ### spec_OutputsOf: function 27 -/
def spec_OutputsOf.l0 : Nat → List Int → List (List Int) → List ByteArray → Int → Option ((List (List Int)) × Bool)
 | 0, _, _, _, _ => none
 | k + 1, x0, x4, x5, x6 => if x6 < (x5.length : Int) then (if 0 ≤ x6 then ((spec_l2Run.f k x0 (rdOf ByteArray.empty x5 x6)).bind fun t220 => ((spec_l2PutOrder.f k x4 t220).bind fun t223 => (spec_OutputsOf.l0 k x0 t223 x5 (wrap64 (x6 + 1))))) else (none)) else ((some (([] : List (List Int)) : List (List Int))).bind fun y226 => (if y226.length + x4.length < 5864062014805 then (some ((y226 ++ x4), true)) else (none)))
def spec_OutputsOf.f (k : Nat) (l0 : List Int) : Option ((List (List Int)) × Bool) := (some (([] : List (List Int)) : List (List Int))).bind fun y212 => ((spec_l2Order.f k l0).bind fun t215 => (if t215 = true then ((spec_l2Words.f k (⟨#[]⟩ : ByteArray) 0 (l0.length : Int)).bind fun t216 => (spec_OutputsOf.l0 k l0 y212 t216 0)) else (some (y212, false))))
set_option maxHeartbeats 8000000 in
set_option maxRecDepth 100000 in
theorem spec_OutputsOf.calls (k : Nat) (A0 : Option Addr) (c0 : Nat) (l0 : List Int) (r1 : List (List Int)) (r2 : Bool) (w : World) (hr0 : Kd.C (Kd.int .i64) w A0 l0.length l0) (hc0 : l0.length ≤ c0) (h : spec_OutputsOf.f k l0 = some (r1, r2)) :
 Calls Try.prog 27 #[.slice A0 l0.length c0] w fun e w' => ∃ v0_ : Value, e = .returned (.tuple #[v0_, .bool r2]) ∧ Kd.N (Kd.slice 3 (Kd.int .i64)) 22 w' w.heap.size (fun k_ => (w.heap.size ≤ k_)) v0_ r1 ∧ Below w.heap.size w w' := by
 have HR0 := zk hr0
 have HC0 := zk hc0
 clear hr0 hc0
 have HB := zk (Below.refl w.heap.size w)
 have H : ((some (([] : List (List Int)) : List (List Int))).bind fun y212 => ((spec_l2Order.f k l0).bind fun t215 => (if t215 = true then ((spec_l2Words.f k (⟨#[]⟩ : ByteArray) 0 (l0.length : Int)).bind fun t216 => (spec_OutputsOf.l0 k l0 y212 t216 0)) else (some (y212, false))))) = some (r1, r2) := h
 clear h
 obtain ⟨y212, hy212⟩ : ∃ y_ : List (List Int), y_ = (([] : List (List Int))) := ⟨_, rfl⟩
 replace H : ((spec_l2Order.f k l0).bind fun t215 => (if t215 = true then ((spec_l2Words.f k (⟨#[]⟩ : ByteArray) 0 (l0.length : Int)).bind fun t216 => (spec_OutputsOf.l0 k l0 y212 t216 0)) else (some (y212, false)))) = some (r1, r2) := by first | (rw [hy212]; with_reducible exact H) | (have H2_ := (Option.bind_some _ _).symm.trans H; rw [hy212]; with_reducible exact H2_) | (have H2_ := (Option.bind_some _ _).symm.trans H; with_reducible exact H2_) | with_reducible exact H | (rw [hy212]; exact H) | exact H
 have Ny212 := zk hy212
 clear hy212
 replace H := Option.bind_eq_some_iff.mp H
 obtain ⟨t215, A20, H⟩ := H
 try dsimp only at H
 have A2 := zk A20
 clear A20
 by_cases c3 : t215 = true
 · subst c3
   have H1 : ((spec_l2Words.f k (⟨#[]⟩ : ByteArray) 0 (l0.length : Int)).bind fun t216 => (spec_OutputsOf.l0 k l0 y212 t216 0)) = some (r1, r2) := by rw [if_pos rfl] at H; exact H
   clear H
   have H := H1
   clear H1
   replace H := Option.bind_eq_some_iff.mp H
   obtain ⟨t216, A40, H⟩ := H
   try dsimp only at H
   have A4 := zk A40
   clear A40
   have H' := zk H
   clear H
   go_enter Try.func27, Try.ntmps27
   go_wp2_with (first | ((with_reducible refine gate_dst (N := 7) rfl ?_); refine Kd.N_lit (Kd.slice 3 (Kd.int .i64)) _ 22 ?hg (N' := 7) ?hd (xs := ([] : List (List Int))) (inner := []) (ok := (fun k_ => (w.heap.size ≤ k_))) (okp := (fun k_ => (w.heap.size ≤ k_))) ?hr ?hp (fun _ hk => hk) ((show ∀ k_, w.heap.size ≤ k_ → (fun k_ => (w.heap.size ≤ k_)) k_ from fun k_ hk => (Nat.le_trans (below_size (by repeat (first | exact HB.out | apply za | apply zd | apply ze))) hk)) _ (Nat.le_refl _)) (Below.refl _ _) (Nat.le_refl _) (by simp) ?_; (case hd => rfl); (case hg => rfl); (case hr => first | (go_simp; done) | (go_simp; rfl)); (case hp => exact (Reps.none _ _)); intro v213 w5 ho6 hb hg_ hnew_; clear hg_ hnew_; (first | rw [← Ny212.out] at ho6 | (simp only [Int.reduceToNat] at ho6; rw [← Ny212.out] at ho6)); have n0_ := zk (Kd.N_lower ho6 (below_size (by repeat (first | exact HB.out | apply za | apply zd | apply ze)))); have n1_ := zk (below_step (by repeat (first | exact HB.out | apply za | apply zd | apply ze)) hb); clear HB; have HO214 := n0_; have HB := n1_; clear n0_ n1_; clear hb ho6) | ((with_reducible refine gate_callee (f := 142) rfl ?_); refine goesL_ (some 9) rfl rfl Try.func142 (by kernel_rfl) rfl #[.slice A0 l0.length c0] rfl (by (try simp only [List.map_toArray, List.map_cons, List.map_nil]); first | done | rfl | (simp only [List.length_drop, List.length_take]; rfl)) ?_; (with_reducible refine (spec_l2Order.calls k _ _ l0 true _ ?side1 ?side2 A2.out).mono ?_); (case side1 => repeat (first | exact (Kd.C_below HR0.out HB.out) | (with_reducible refine zv ?_ _) | (with_reducible refine zu ?_ _) | (with_reducible refine zw ?_))); (case side2 => exact HC0.out); rintro e w' ⟨rfl, ⟨nd, rfl⟩⟩; refine ⟨_, rfl, ?_⟩) | ((with_reducible refine gate_callee (f := 150) rfl ?_); refine goesL_ (some 14) rfl rfl Try.func150 (by kernel_rfl) rfl #[.string (⟨#[]⟩ : ByteArray), .int .i64 0, .int .i64 (l0.length : Int)] rfl (by (try simp only [List.map_toArray, List.map_cons, List.map_nil]); first | done | rfl | (simp only [List.length_drop, List.length_take]; rfl)) ?_; (with_reducible refine (spec_l2Words.calls k (⟨#[]⟩ : ByteArray) 0 (l0.length : Int) t216 _ A4.out).mono ?_); rintro e w7 ⟨v217, rfl, ho0, hb⟩; refine ⟨_, rfl, ?_⟩; have n0_ := zk (Kd.N_elder' (by (with_reducible repeat (first | apply Kd.N_alloc | apply Kd.N_drewN | apply Kd.N_drew)); exact HO214.out) (Kd.R_base ho0) hb); have n1_ := zk (Kd.R_lower (Kd.R_newM (M := fun k_ => (w.heap.size ≤ k_)) ho0 (below_size (by repeat (first | exact HB.out | apply za | apply zd | apply ze))) (fun k_ h_ => h_)) (below_size (by repeat (first | exact HB.out | apply za | apply zd | apply ze)))); have n2_ := zk (below_step (by repeat (first | exact HB.out | apply za | apply zd | apply ze)) hb); clear HO214; clear HB; have HO214 := n0_; have HO218 := n1_; have HB := n2_; clear n0_ n1_ n2_; (try clear hb); (try clear hb2); (try clear hk); (try clear hi); (try clear ho0)))
   go_loopg [4, 6] k (fun kq v4 v6 w' => ∃ (x4_1 : List (List Int)) (x6_1 : Int), v6 = .int .i64 x6_1 ∧ Aside0 (spec_OutputsOf.l0 kq l0 x4_1 t216 x6_1 = some (r1, r2)) ∧ Aside0 (kq ≤ k) ∧ Aside0 (Kd.V (Kd.slice 3 (Kd.int .i64)) 22 w' w.heap.size (fun k_ => (w.heap.size ≤ k_) ∧ some k_ ≠ (v217 : Value).ownBlock) v4 x4_1) ∧ Aside0 (Kd.R Kd.string 9 w' w.heap.size (fun k_ => (w.heap.size ≤ k_)) v217 t216) ∧ Aside0 (Below w.heap.size w w'))
   case atStart => exact ⟨(y212), (0), (by first | rfl | (simp; done) | (simp [*]; done)), H', ⟨Nat.le_refl _⟩, ⟨Kd.N_V (by (with_reducible repeat (first | apply Kd.N_alloc | apply Kd.N_drewN | apply Kd.N_drew)); exact HO214.out)⟩, ⟨by (with_reducible repeat (first | apply zs | apply zr | apply zt)); exact Kd.R_mono HO218.out (fun _ hk => hk.1)⟩, ⟨by repeat (first | exact HB.out | apply za | apply zd | apply ze)⟩⟩
   case round =>
    clear H'
    try clear c1
    try clear c2
    try clear p2
    try clear c3
    obtain ⟨x4_1, x6_1, rfl, HA, HK1, HO_4, HO_5, HB⟩ := hrel
    cases gk with
    | zero => exact absurd HA.out (by simp [spec_OutputsOf.l0])
    | succ k1 =>
     have H := HA.out
     clear HA
     simp only [spec_OutputsOf.l0] at H
     by_cases c8 : x6_1 < (t216.length : Int)
     · rw [if_pos c8] at H
       have c8b0 : decide (x6_1 < (t216.length : Int)) = true := decide_eq_true c8
       clear c8
       by_cases c9 : 0 ≤ x6_1
       · rw [if_pos c9] at H
         have c9b0 : decide (0 ≤ x6_1) = true := decide_eq_true c9
         clear c9
         replace H := Option.bind_eq_some_iff.mp H
         obtain ⟨t220, A100, H⟩ := H
         try dsimp only at H
         have A10 := zk A100
         clear A100
         replace H := Option.bind_eq_some_iff.mp H
         obtain ⟨t223, A110, H⟩ := H
         try dsimp only at H
         have A11 := zk A110
         clear A110
         have H' := zk H
         clear H
         obtain ⟨Ao12, co12, eo12⟩ := Kd.R_slice HO_5.out
         subst eo12
         have p219 : 0 ≤ (x6_1 : Int) := zo (by assumption)
         have q219 : x6_1 < (t216.length : Int) := zo (by assumption)
         obtain ⟨ad219, e219, hx219_0⟩ := Kd.at_string (Kd.R_reads' HO_5.out).2.2 x6_1 p219 q219
         cases e219
         replace p219 := eq_true p219
         replace q219 := eq_true q219
         go_wp2_with (first | ((with_reducible refine gate_callee (f := 152) rfl ?_); refine goesL_ (some 27) rfl rfl Try.func152 (by kernel_rfl) rfl #[.slice A0 l0.length c0, .string (rdOf ByteArray.empty t216 x6_1)] rfl (by (try simp only [List.map_toArray, List.map_cons, List.map_nil]); first | done | rfl | (simp only [List.length_drop, List.length_take]; rfl)) ?_; (with_reducible refine (spec_l2Run.calls k1 _ _ l0 (rdOf ByteArray.empty t216 x6_1) t220 _ ?side1 ?side2 A10.out).mono ?_); (case side1 => repeat (first | exact (Kd.C_below HR0.out HB.out) | (with_reducible refine zv ?_ _) | (with_reducible refine zu ?_ _) | (with_reducible refine zw ?_))); (case side2 => exact HC0.out); rintro e w13 ⟨v221, rfl, ho0, hb⟩; refine ⟨_, rfl, ?_⟩; have n0_ := zk (Kd.V_elder' (by (with_reducible repeat (first | apply Kd.V_alloc | apply Kd.V_drewN | apply Kd.V_drew)); exact HO_4.out) (Kd.R_base ho0) hb); have n1_ := zk (Kd.R_below (by (with_reducible repeat (first | apply zs | apply zr | apply zt)); exact HO_5.out) hb); have n2_ := zk (Kd.R_lower (Kd.R_newM (M := fun k_ => (w.heap.size ≤ k_)) ho0 (below_size (by repeat (first | exact HB.out | apply za | apply zd | apply ze))) (fun k_ h_ => h_)) (below_size (by repeat (first | exact HB.out | apply za | apply zd | apply ze)))); have n3_ := zk (below_step (by repeat (first | exact HB.out | apply za | apply zd | apply ze)) hb); clear HO_4; clear HO_5; clear HB; have HO_4 := n0_; have HO_5 := n1_; have HO222 := n2_; have HB := n3_; clear n0_ n1_ n2_ n3_; (try clear hb); (try clear hb2); (try clear hk); (try clear hi); (try clear ho0); obtain ⟨Ao14, co14, eo14⟩ := Kd.V_slice HO_4.out; subst eo14; obtain ⟨Ao15, co15, eo15⟩ := Kd.R_slice HO222.out; subst eo15) | ((with_reducible refine gate_callee (f := 151) rfl ?_); refine goesL_ (some 28) rfl rfl Try.func151 (by kernel_rfl) rfl #[.slice Ao14 x4_1.length co14, .slice Ao15 t220.length co15] rfl (by (try simp only [List.map_toArray, List.map_cons, List.map_nil]); first | done | rfl | (simp only [List.length_drop, List.length_take]; rfl)) ?_; (with_reducible refine (spec_l2PutOrder.calls k1 (fun k_ => (((w.heap.size ≤ k_) ∧ some k_ ≠ (.slice (some ad219) t216.length co12 : Value).ownBlock) ∧ some k_ ≠ (.slice Ao15 t220.length co15 : Value).ownBlock)) _ _ x4_1 (fun k_ => some k_ = (.slice Ao15 t220.length co15 : Value).ownBlock) _ _ t220 t223 _ ?side1 ?side2 A11.out).mono ?_); (case side1 => exact HO_4.out); (case side2 => exact Kd.R_V (Kd.R_tight rfl (Kd.R_apart' (HO222.out) (Kd.R_typed HO_5.out) (by decide)))); rintro e w16 ⟨v224, rfl, ho0, hb⟩; refine ⟨_, rfl, ?_⟩; have n0_ := zk (Kd.V_below (by (with_reducible repeat (first | apply Kd.V_alloc | apply Kd.V_drewN | apply Kd.V_drew)); exact HO_4.out) hb); have n1_ := zk (Kd.R_below (by (with_reducible repeat (first | apply zs | apply zr | apply zt)); exact HO_5.out) hb); have n2_ := zk (Kd.R_below (by (with_reducible repeat (first | apply zs | apply zr | apply zt)); exact HO222.out) hb); have n3_ := zk (Kd.V_lower (Kd.V_mono (ok' := fun k_ => (w.heap.size ≤ k_) ∧ some k_ ≠ (.slice (some ad219) t216.length co12 : Value).ownBlock) ho0 (fun k_ hk_ => ⟨Or.elim hk_ (fun hs_ => Or.elim hs_ (fun hs_ => hs_.1.1) (fun hs_ => ((Kd.R_apart' (HO222.out) (Kd.R_typed HO_5.out) (by decide)).1 k_ hs_.symm).1.1)) (fun hn_ => (Nat.le_trans (below_size (by repeat (first | exact HB.out | apply za | apply zd | apply ze))) hn_)), Or.elim hk_ (fun hs_ => Or.elim hs_ (fun hs_ => hs_.1.2) (fun hs_ => ((Kd.R_apart' (HO222.out) (Kd.R_typed HO_5.out) (by decide)).1 k_ hs_.symm).2)) (fun hn_ => (Kd.fresh' (Kd.R_lt (by (with_reducible repeat (first | apply zs | apply zr | apply zt)); exact HO_5.out)) k_ hn_))⟩)) (below_size (by repeat (first | exact HB.out | apply za | apply zd | apply ze)))); have n4_ := zk (below_step (by repeat (first | exact HB.out | apply za | apply zd | apply ze)) hb); clear HO_4; clear HO_5; clear HO222; clear HB; have HO_4 := n0_; have HO_5 := n1_; have HO222 := n2_; have HO225 := n3_; have HB := n4_; clear n0_ n1_ n2_ n3_ n4_; (try clear hb); (try clear hb2); (try clear hk); (try clear hi); (try clear ho0)))
         go_roundg k1
         case measure => have := HK1.out; omega
         case rel => exact ⟨(t223), (wrap64 (x6_1 + 1)), (by first | rfl | (simp; done) | (simp [*]; done)), H', ⟨by have := HK1.out; omega⟩, ⟨by (with_reducible repeat (first | apply Kd.V_alloc | apply Kd.V_drewN | apply Kd.V_drew)); exact HO225.out⟩, ⟨by (with_reducible repeat (first | apply zs | apply zr | apply zt)); exact HO_5.out⟩, ⟨by repeat (first | exact HB.out | apply za | apply zd | apply ze)⟩⟩
       · rw [if_neg c9] at H
         exact absurd H (by simp)
     · rw [if_neg c8] at H
       have c8b0 : decide (x6_1 < (t216.length : Int)) = false := decide_eq_false c8
       clear c8
       obtain ⟨y226, hy226⟩ : ∃ y_ : List (List Int), y_ = (([] : List (List Int))) := ⟨_, rfl⟩
       replace H : (if y226.length + x4_1.length < 5864062014805 then (some ((y226 ++ x4_1), true)) else (none)) = some (r1, r2) := by first | (rw [hy226]; with_reducible exact H) | (have H2_ := (Option.bind_some _ _).symm.trans H; rw [hy226]; with_reducible exact H2_) | (have H2_ := (Option.bind_some _ _).symm.trans H; with_reducible exact H2_) | with_reducible exact H | (rw [hy226]; exact H) | exact H
       have Ny226 := zk hy226
       clear hy226
       by_cases c17 : y226.length + x4_1.length < 5864062014805
       · rw [if_pos c17] at H
         have LMc17 := zk c17
         clear c17
         obtain ⟨y229, hy229⟩ : ∃ y_ : List (List Int), y_ = (y226 ++ x4_1) := ⟨_, rfl⟩
         replace H : (some (y229, true)) = some (r1, r2) := by first | (rw [hy229]; with_reducible exact H) | (have H2_ := (Option.bind_some _ _).symm.trans H; rw [hy229]; with_reducible exact H2_) | (have H2_ := (Option.bind_some _ _).symm.trans H; with_reducible exact H2_) | with_reducible exact H | (rw [hy229]; exact H) | exact H
         have Ny229 := zk hy229
         clear hy229
         simp only [Option.some.injEq, Prod.mk.injEq] at H
         obtain ⟨rfl, rfl⟩ := H
         obtain ⟨Ao18, co18, eo18⟩ := Kd.R_slice HO_5.out
         subst eo18
         go_wp2_with (first | ((with_reducible refine gate_dst (N := 29) rfl ?_); refine Kd.N_lit (Kd.slice 3 (Kd.int .i64)) _ 22 ?hg (N' := 29) ?hd (xs := ([] : List (List Int))) (inner := []) (ok := (fun k_ => (w.heap.size ≤ k_) ∧ some k_ ≠ (.slice Ao18 t216.length co18 : Value).ownBlock)) (okp := (fun k_ => (w.heap.size ≤ k_) ∧ some k_ ≠ (.slice Ao18 t216.length co18 : Value).ownBlock)) ?hr ?hp (fun _ hk => hk) ((show ∀ k_, wr.heap.size ≤ k_ → (fun k_ => (w.heap.size ≤ k_) ∧ some k_ ≠ (.slice Ao18 t216.length co18 : Value).ownBlock) k_ from fun k_ hk => ⟨(Nat.le_trans (below_size (by repeat (first | exact HB.out | apply za | apply zd | apply ze))) hk), Kd.fresh' (Kd.R_lt (by (with_reducible repeat (first | apply zs | apply zr | apply zt)); exact HO_5.out)) k_ hk⟩) _ (Nat.le_refl _)) (Below.refl _ _) (Nat.le_refl _) (by simp) ?_; (case hd => rfl); (case hg => rfl); (case hr => first | (go_simp; done) | (go_simp; rfl)); (case hp => exact (Reps.none _ _)); intro v227 w19 ho20 hb hg_ hnew_; clear hg_ hnew_; (first | rw [← Ny226.out] at ho20 | (simp only [Int.reduceToNat] at ho20; rw [← Ny226.out] at ho20)); have n0_ := zk (Kd.V_elder' (by (with_reducible repeat (first | apply Kd.V_alloc | apply Kd.V_drewN | apply Kd.V_drew)); exact HO_4.out) (by first | exact Kd.N_base ho20 | exact Kd.S_base ho20 | exact Kd.R_base ho20) hb); have n1_ := zk (Kd.R_below (by (with_reducible repeat (first | apply zs | apply zr | apply zt)); exact HO_5.out) hb); have n2_ := zk (Kd.N_lower ho20 (below_size (by repeat (first | exact HB.out | apply za | apply zd | apply ze)))); have n3_ := zk (below_step (by repeat (first | exact HB.out | apply za | apply zd | apply ze)) hb); clear HO_4; clear HO_5; clear HB; have HO_4 := n0_; have HO_5 := n1_; have HO228 := n2_; have HB := n3_; clear n0_ n1_ n2_ n3_; clear hb ho20; obtain ⟨Ao22, co22, eo22⟩ := Kd.V_slice HO_4.out; subst eo22) | ((with_reducible refine gate_builtin (b := .append) (xs := #[.tmp 29, .tmp 30]) rfl ?_); at_builtin; refine Kd.N_append_rows (Kd.slice 3 (Kd.int .i64)) (w0 := w) w.heap.size rfl (.tmp 29) (.tmp 30) 28 22 (.slice none 0 0) 24 rfl Try.underlying28 info22 rfl (by decide) (by omega) v227 y226 x4_1 _ _ _ (fun k_ => (w.heap.size ≤ k_) ∧ some k_ ≠ (.slice Ao18 t216.length co18 : Value).ownBlock) (fun k_ => ((fun k_ => (w.heap.size ≤ k_) ∧ some k_ ≠ (.slice Ao18 t216.length co18 : Value).ownBlock)) k_ ∧ some k_ ≠ (v227 : Value).ownBlock) rfl rfl ?aO ?aR (fun _ hk => hk) ?aF ?aB ?aS ?aL ?_; (case aR => exact (by skip; exact Kd.V_F (by (with_reducible repeat (first | apply Kd.V_alloc | apply Kd.V_drewN | apply Kd.V_drew)); exact Kd.V_mono (ok' := (fun k_ => ((fun k_ => (w.heap.size ≤ k_) ∧ some k_ ≠ (.slice Ao18 t216.length co18 : Value).ownBlock)) k_ ∧ some k_ ≠ (v227 : Value).ownBlock)) (HO_4.out) (fun k_ hk => ⟨⟨hk.1.1, hk.1.2⟩, hk.2⟩)))); (case aB => exact (by repeat (first | exact HB.out | apply za | apply zd | apply ze))); (case aF => exact (fun k_ hk => ⟨(Nat.le_trans (below_size (by repeat (first | exact HB.out | apply za | apply zd | apply ze))) hk), Kd.fresh' (Kd.R_lt (by (with_reducible repeat (first | apply zs | apply zr | apply zt)); exact HO_5.out)) k_ hk⟩)); (case aO => exact (by (with_reducible repeat (first | apply Kd.N_alloc | apply Kd.N_drewN | apply Kd.N_drew)); exact HO228.out)); (case aS => exact (below_size (by repeat (first | exact HB.out | apply za | apply zd | apply ze)))); (case aL => have := LMc17.out; omega); intro v230 w21 ho hb hg hat; rw [← Ny229.out] at ho; have n0_ := zk (Kd.V_afterv (ok := (fun k_ => (w.heap.size ≤ k_) ∧ some k_ ≠ (.slice Ao18 t216.length co18 : Value).ownBlock)) (by (with_reducible repeat (first | apply Kd.V_alloc | apply Kd.V_drewN | apply Kd.V_drew)); exact HO_4.out) hg hat); have n1_ := zk (Kd.R_over' (by (with_reducible repeat (first | apply zs | apply zr | apply zt)); exact HO_5.out) (Kd.N_typed (by (with_reducible repeat (first | apply Kd.N_alloc | apply Kd.N_drewN | apply Kd.N_drew)); exact HO228.out)) (by decide) hg); have n2_ := zk (hb); have n3_ := zk (ho); clear HO_4; clear HO_5; clear HB; clear HO228; have HO_4 := n0_; have HO_5 := n1_; have HB := n2_; have HO231 := n3_; clear n0_ n1_ n2_ n3_; clear ho hb hg hat))
         go_ret2
         exact ⟨_, by first | rfl | (simp [errW_none, errW_some] <;> rfl) | (simp [*, errW_none, errW_some] <;> rfl), by (with_reducible repeat (first | apply Kd.N_alloc | apply Kd.N_drewN | apply Kd.N_drew)); exact Kd.N_mono HO231.out (fun _ hk => hk.1), by repeat (first | exact HB.out | apply za | apply zd | apply ze)⟩
       · rw [if_neg c17] at H
         exact absurd H (by simp)
 · replace c3 := Bool.eq_false_iff.mpr c3
   subst c3
   have H1 : (some (y212, false)) = some (r1, r2) := by rw [if_neg (show ¬ (false = true) by decide)] at H; exact H
   clear H
   have H := H1
   clear H1
   simp only [Option.some.injEq, Prod.mk.injEq] at H
   obtain ⟨rfl, rfl⟩ := H
   go_enter Try.func27, Try.ntmps27
   go_wp2_with (first | ((with_reducible refine gate_dst (N := 7) rfl ?_); refine Kd.N_lit (Kd.slice 3 (Kd.int .i64)) _ 22 ?hg (N' := 7) ?hd (xs := ([] : List (List Int))) (inner := []) (ok := (fun k_ => (w.heap.size ≤ k_))) (okp := (fun k_ => (w.heap.size ≤ k_))) ?hr ?hp (fun _ hk => hk) ((show ∀ k_, w.heap.size ≤ k_ → (fun k_ => (w.heap.size ≤ k_)) k_ from fun k_ hk => (Nat.le_trans (below_size (by repeat (first | exact HB.out | apply za | apply zd | apply ze))) hk)) _ (Nat.le_refl _)) (Below.refl _ _) (Nat.le_refl _) (by simp) ?_; (case hd => rfl); (case hg => rfl); (case hr => first | (go_simp; done) | (go_simp; rfl)); (case hp => exact (Reps.none _ _)); intro v213 w23 ho24 hb hg_ hnew_; clear hg_ hnew_; (first | rw [← Ny212.out] at ho24 | (simp only [Int.reduceToNat] at ho24; rw [← Ny212.out] at ho24)); have n0_ := zk (Kd.N_lower ho24 (below_size (by repeat (first | exact HB.out | apply za | apply zd | apply ze)))); have n1_ := zk (below_step (by repeat (first | exact HB.out | apply za | apply zd | apply ze)) hb); clear HB; have HO214 := n0_; have HB := n1_; clear n0_ n1_; clear hb ho24) | ((with_reducible refine gate_callee (f := 142) rfl ?_); refine goesL_ (some 9) rfl rfl Try.func142 (by kernel_rfl) rfl #[.slice A0 l0.length c0] rfl (by (try simp only [List.map_toArray, List.map_cons, List.map_nil]); first | done | rfl | (simp only [List.length_drop, List.length_take]; rfl)) ?_; (with_reducible refine (spec_l2Order.calls k _ _ l0 false _ ?side1 ?side2 A2.out).mono ?_); (case side1 => repeat (first | exact (Kd.C_below HR0.out HB.out) | (with_reducible refine zv ?_ _) | (with_reducible refine zu ?_ _) | (with_reducible refine zw ?_))); (case side2 => exact HC0.out); rintro e w' ⟨rfl, ⟨nd, rfl⟩⟩; refine ⟨_, rfl, ?_⟩))
   go_ret2
   exact ⟨_, by first | rfl | (simp [errW_none, errW_some] <;> rfl) | (simp [*, errW_none, errW_some] <;> rfl), by (with_reducible repeat (first | apply Kd.N_alloc | apply Kd.N_drewN | apply Kd.N_drew)); exact HO214.out, by repeat (first | exact HB.out | apply za | apply zd | apply ze)⟩

/-! ### slices_Index_int_int: function 184 -/
def slices_Index_int_int.l0 : Nat → List Int → Int → Int → Int → Option (Int)
 | 0, _, _, _, _ => none
 | k + 1, x0, x1, x7, x8 => if x8 < x7 then (if 0 ≤ x8 then (if x8 < (x0.length : Int) then (if x1 = (rd x0 x8) then (some x8) else (slices_Index_int_int.l0 k x0 x1 x7 (wrap64 (x8 + 1)))) else (none)) else (none)) else (some (-1))
def slices_Index_int_int.f (k : Nat) (l0 : List Int) (a1 : Int) : Option (Int) := slices_Index_int_int.l0 k l0 a1 (l0.length : Int) 0
set_option maxHeartbeats 8000000 in
set_option maxRecDepth 100000 in
theorem slices_Index_int_int.calls (k : Nat) (A0 : Option Addr) (c0 : Nat) (l0 : List Int) (a1 : Int) (r : Int) (w : World) (hr0 : Kd.C (Kd.int .i64) w A0 l0.length l0) (hc0 : l0.length ≤ c0) (h : slices_Index_int_int.f k l0 a1 = some r) :
 Calls Try.prog 184 #[.slice A0 l0.length c0, .int .i64 a1] w fun e w' => e = .returned (.int .i64 r) ∧ Drawn0 w w' := by
 have HR0 := zk hr0
 have HC0 := zk hc0
 clear hr0 hc0
 have H : (slices_Index_int_int.l0 k l0 a1 (l0.length : Int) 0) = some r := h
 clear h
 have H' := zk H
 clear H
 go_enter Try.func184, Try.ntmps184
 go_wp2
 go_loopg [8] k (fun kq v8 w' => ∃ (x8_1 : Int), v8 = .int .i64 x8_1 ∧ Aside0 (slices_Index_int_int.l0 kq l0 a1 (l0.length : Int) x8_1 = some r) ∧ Aside0 (kq ≤ k) ∧ Drawn0 w w')
 case atStart => exact ⟨(0), (by first | rfl | (simp; done) | (simp [*]; done)), H', ⟨Nat.le_refl _⟩, by repeat (first | exact Drawn0.refl _ | apply Drawn0.step)⟩
 case round =>
  clear H'
  try clear c1
  try clear p2
  obtain ⟨x8_1, rfl, HA, HK1, ⟨m1, rfl⟩⟩ := hrel
  cases gk with
  | zero => exact absurd HA.out (by simp [slices_Index_int_int.l0])
  | succ k1 =>
   have H := HA.out
   clear HA
   simp only [slices_Index_int_int.l0] at H
   by_cases c3 : x8_1 < (l0.length : Int)
   · rw [if_pos c3] at H
     have c3b0 : decide (x8_1 < (l0.length : Int)) = true := decide_eq_true c3
     clear c3
     by_cases c4 : 0 ≤ x8_1
     · rw [if_pos c4] at H
       have c4b0 : decide (0 ≤ x8_1) = true := decide_eq_true c4
       clear c4
       by_cases c5 : x8_1 < (l0.length : Int)
       · rw [if_pos c5] at H
         have c5b0 : decide (x8_1 < (l0.length : Int)) = true := decide_eq_true c5
         clear c5
         by_cases c6 : a1 = (rd l0 x8_1)
         · rw [if_pos c6] at H
           have c6b0 : (a1 == (rd l0 x8_1)) = true := beq_iff_eq.mpr c6
           have c6b1 : (a1 != (rd l0 x8_1)) = false := bne_eq_false_iff_eq.mpr c6
           clear c6
           obtain rfl := Option.some.inj H
           have p232 : 0 ≤ (x8_1 : Int) := zo (by assumption)
           have q232 : x8_1 < (l0.length : Int) := zo (by assumption)
           obtain ⟨ad232, e232, hx232_0⟩ := Kd.at_int HR0.out x8_1 p232 q232
           cases e232
           replace p232 := eq_true p232
           replace q232 := eq_true q232
           go_wp2
           go_ret
           exact ⟨by first | rfl | (simp; done) | (simp [*]; done), by repeat (first | exact Drawn0.refl _ | apply Drawn0.step)⟩
         · rw [if_neg c6] at H
           have c6b0 : (a1 == (rd l0 x8_1)) = false := beq_eq_false_iff_ne.mpr c6
           have c6b1 : (a1 != (rd l0 x8_1)) = true := bne_iff_ne.mpr c6
           have H' := zk H
           clear H
           have p232 : 0 ≤ (x8_1 : Int) := zo (by assumption)
           have q232 : x8_1 < (l0.length : Int) := zo (by assumption)
           obtain ⟨ad232, e232, hx232_0⟩ := Kd.at_int HR0.out x8_1 p232 q232
           cases e232
           replace p232 := eq_true p232
           replace q232 := eq_true q232
           go_wp2
           go_roundg k1
           case measure => have := HK1.out; omega
           case rel => exact ⟨(wrap64 (x8_1 + 1)), (by first | rfl | (simp; done) | (simp [*]; done)), H', ⟨by have := HK1.out; omega⟩, by repeat (first | exact Drawn0.refl _ | apply Drawn0.step)⟩
       · rw [if_neg c5] at H
         exact absurd H (by simp)
     · rw [if_neg c4] at H
       exact absurd H (by simp)
   · rw [if_neg c3] at H
     have c3b0 : decide (x8_1 < (l0.length : Int)) = false := decide_eq_false c3
     clear c3
     obtain rfl := Option.some.inj H
     go_wp2
     go_ret
     exact ⟨by first | rfl | (simp; done) | (simp [*]; done), by repeat (first | exact Drawn0.refl _ | apply Drawn0.step)⟩

/-! ### slices_Contains_int_int: function 236 -/
def slices_Contains_int_int.f (k : Nat) (l0 : List Int) (a1 : Int) : Option (Bool) := (slices_Index_int_int.f k l0 a1).bind fun t233 => (some (decide (t233 ≥ 0)))
set_option maxHeartbeats 8000000 in
set_option maxRecDepth 100000 in
theorem slices_Contains_int_int.calls (k : Nat) (A0 : Option Addr) (c0 : Nat) (l0 : List Int) (a1 : Int) (r : Bool) (w : World) (hr0 : Kd.C (Kd.int .i64) w A0 l0.length l0) (hc0 : l0.length ≤ c0) (h : slices_Contains_int_int.f k l0 a1 = some r) :
 Calls Try.prog 236 #[.slice A0 l0.length c0, .int .i64 a1] w fun e w' => e = .returned (.bool r) ∧ Drawn0 w w' := by
 have HR0 := zk hr0
 have HC0 := zk hc0
 clear hr0 hc0
 have H : ((slices_Index_int_int.f k l0 a1).bind fun t233 => (some (decide (t233 ≥ 0)))) = some r := h
 clear h
 replace H := Option.bind_eq_some_iff.mp H
 obtain ⟨t233, A30, H⟩ := H
 try dsimp only at H
 have A3 := zk A30
 clear A30
 obtain rfl := Option.some.inj H
 go_enter Try.func236, Try.ntmps236
 go_wp2_with (first | ((with_reducible refine gate_callee (f := 184) rfl ?_); refine goesL_ (some 7) rfl rfl Try.func184 (by kernel_rfl) rfl #[.slice A0 l0.length c0, .int .i64 a1] rfl (by (try simp only [List.map_toArray, List.map_cons, List.map_nil]); first | done | rfl | (simp only [List.length_drop, List.length_take]; rfl)) ?_; (with_reducible refine (slices_Index_int_int.calls k _ _ l0 a1 t233 _ ?side1 ?side2 A3.out).mono ?_); (case side1 => repeat (first | exact HR0.out | (with_reducible refine zv ?_ _) | (with_reducible refine zu ?_ _) | (with_reducible refine zw ?_))); (case side2 => exact HC0.out); rintro e w' ⟨rfl, ⟨nd, rfl⟩⟩; refine ⟨_, rfl, ?_⟩))
 go_ret
 exact ⟨by first | rfl | (simp; done) | (simp [*]; done), by repeat (first | exact Drawn0.refl _ | apply Drawn0.step)⟩

/-! ### impl_isOrder: function 146 -/
mutual
def impl_isOrder.j0 : Nat → List Int → Bool → Option (Bool)
 | 0, _, _ => none
 | k + 1, x0, x12 => if x12 = true then (some false) else (impl_isOrder.l0 k x0 x0 (x0.length : Int) 0)
def impl_isOrder.l0 : Nat → List Int → List Int → Int → Int → Option (Bool)
 | 0, _, _, _, _ => none
 | k + 1, x0, x13, x14, x15 => if x15 < x14 then (if 0 ≤ x15 then (if x15 < (x13.length : Int) then (if (rd x13 x15) < 1 then (some false) else (if (rd x13 x15) > (x0.length : Int) then (some false) else (if x15 ≤ (x0.length : Int) then ((slices_Contains_int_int.f k (x0.take (x15 : Int).toNat) (rd x13 x15)).bind fun t239 => (if t239 = true then (some false) else (impl_isOrder.l0 k x0 x13 x14 (wrap64 (x15 + 1))))) else (none)))) else (none)) else (none)) else (some true)
end
def impl_isOrder.f (k : Nat) (l0 : List Int) : Option (Bool) := if (l0.length : Int) < 1 then (impl_isOrder.j0 k l0 true) else (impl_isOrder.j0 k l0 (decide ((l0.length : Int) > 7)))
set_option maxHeartbeats 8000000 in
set_option maxRecDepth 100000 in
theorem impl_isOrder.calls (k : Nat) (A0 : Option Addr) (c0 : Nat) (l0 : List Int) (r : Bool) (w : World) (hr0 : Kd.C (Kd.int .i64) w A0 l0.length l0) (hc0 : l0.length ≤ c0) (h : impl_isOrder.f k l0 = some r) :
 Calls Try.prog 146 #[.slice A0 l0.length c0] w fun e w' => e = .returned (.bool r) ∧ Drawn0 w w' := by
 have HR0 := zk hr0
 have HC0 := zk hc0
 clear hr0 hc0
 have H : (if (l0.length : Int) < 1 then (impl_isOrder.j0 k l0 true) else (impl_isOrder.j0 k l0 (decide ((l0.length : Int) > 7)))) = some r := h
 clear h
 have HC2 := zk H
 clear H
 go_enter Try.func146, Try.ntmps146
 go_upto_region 1 with (fail)
 go_cut [12] (fun v12 wc => ∃ (kq : Nat) (x12_1 : Bool), v12 = .bool x12_1 ∧ Aside0 (impl_isOrder.j0 kq l0 x12_1 = some r) ∧ Aside0 (kq ≤ k) ∧ Drawn0 w wc)
 case first =>
  have H := HC2.out
  clear HC2
  by_cases c3 : (l0.length : Int) < 1
  · rw [if_pos c3] at H
    have c3b0 : decide ((l0.length : Int) < 1) = true := decide_eq_true c3
    have c3b1 : decide (l0.length < 1) = true := decide_eq_true (by omega)
    clear c3
    (first | rw [c3b0] | (simp only [i64_w, i32_w]; rw [c3b0]) | skip)
    have H' := zk H
    clear H
    go_wp2
    go_meet
    case rel => exact ⟨_, (true), (by first | rfl | (simp; done) | (simp [*]; done)), H', ⟨by first | omega | exact Nat.le_refl _⟩, by repeat (first | exact Drawn0.refl _ | apply Drawn0.step)⟩
  · rw [if_neg c3] at H
    have c3b0 : decide ((l0.length : Int) < 1) = false := decide_eq_false c3
    have c3b1 : decide (l0.length < 1) = false := decide_eq_false (by omega)
    clear c3
    (first | rw [c3b0] | (simp only [i64_w, i32_w]; rw [c3b0]) | skip)
    have H' := zk H
    clear H
    go_wp2
    go_meet
    case rel => exact ⟨_, (decide ((l0.length : Int) > 7)), (by first | rfl | (simp; done) | (simp [*]; done)), H', ⟨by first | omega | exact Nat.le_refl _⟩, by repeat (first | exact Drawn0.refl _ | apply Drawn0.step)⟩
 case rest =>
  clear HC2
  try clear c1
  try clear p2
  try clear c3
  try clear c3b0
  try clear c3b1
  obtain ⟨kq, x12_1, rfl, HA, HJ1, ⟨mc1, rfl⟩⟩ := hcut
  cases kq with
  | zero => exact absurd HA.out (by simp [impl_isOrder.j0])
  | succ kj1 =>
   have H := HA.out
   clear HA
   simp only [impl_isOrder.j0] at H
   by_cases c4 : x12_1 = true
   · subst c4
     have H1 : (some false) = some r := by rw [if_pos rfl] at H; exact H
     clear H
     have H := H1
     clear H1
     obtain rfl := Option.some.inj H
     go_wp2
     go_ret
     exact ⟨by first | rfl | (simp; done) | (simp [*]; done), by repeat (first | exact Drawn0.refl _ | apply Drawn0.step)⟩
   · replace c4 := Bool.eq_false_iff.mpr c4
     subst c4
     have H1 : (impl_isOrder.l0 kj1 l0 l0 (l0.length : Int) 0) = some r := by rw [if_neg (show ¬ (false = true) by decide)] at H; exact H
     clear H
     have H := H1
     clear H1
     have H' := zk H
     clear H
     go_wp2
     go_loopg [15] kj1 (fun kq v15 w' => ∃ (x15_2 : Int), v15 = .int .i64 x15_2 ∧ Aside0 (impl_isOrder.l0 kq l0 l0 (l0.length : Int) x15_2 = some r) ∧ Aside0 (kq ≤ kj1) ∧ Drawn0 w w')
     case atStart => exact ⟨(0), (by first | rfl | (simp; done) | (simp [*]; done)), H', ⟨Nat.le_refl _⟩, by repeat (first | exact Drawn0.refl _ | apply Drawn0.step)⟩
     case round =>
      clear H'
      try clear c1
      try clear p2
      try clear c3
      try clear c3b0
      try clear c3b1
      try clear c4
      try clear p2
      obtain ⟨x15_2, rfl, HA, HK2, ⟨m2, rfl⟩⟩ := hrel
      cases gk with
      | zero => exact absurd HA.out (by simp [impl_isOrder.l0])
      | succ k2 =>
       have H := HA.out
       clear HA
       simp only [impl_isOrder.l0] at H
       by_cases c5 : x15_2 < (l0.length : Int)
       · rw [if_pos c5] at H
         have c5b0 : decide (x15_2 < (l0.length : Int)) = true := decide_eq_true c5
         clear c5
         by_cases c6 : 0 ≤ x15_2
         · rw [if_pos c6] at H
           have c6b0 : decide (0 ≤ x15_2) = true := decide_eq_true c6
           clear c6
           by_cases c7 : x15_2 < (l0.length : Int)
           · rw [if_pos c7] at H
             have c7b0 : decide (x15_2 < (l0.length : Int)) = true := decide_eq_true c7
             clear c7
             by_cases c8 : (rd l0 x15_2) < 1
             · rw [if_pos c8] at H
               have c8b0 : decide ((rd l0 x15_2) < 1) = true := decide_eq_true c8
               clear c8
               obtain rfl := Option.some.inj H
               have p234 : 0 ≤ (x15_2 : Int) := zo (by assumption)
               have q234 : x15_2 < (l0.length : Int) := zo (by assumption)
               obtain ⟨ad234, e234, hx234_0⟩ := Kd.at_int HR0.out x15_2 p234 q234
               cases e234
               replace p234 := eq_true p234
               replace q234 := eq_true q234
               go_wp2
               go_ret
               exact ⟨by first | rfl | (simp; done) | (simp [*]; done), by repeat (first | exact Drawn0.refl _ | apply Drawn0.step)⟩
             · rw [if_neg c8] at H
               have c8b0 : decide ((rd l0 x15_2) < 1) = false := decide_eq_false c8
               clear c8
               by_cases c9 : (rd l0 x15_2) > (l0.length : Int)
               · rw [if_pos c9] at H
                 have c9b0 : decide ((l0.length : Int) < (rd l0 x15_2)) = true := decide_eq_true c9
                 clear c9
                 obtain rfl := Option.some.inj H
                 have p234 : 0 ≤ (x15_2 : Int) := zo (by assumption)
                 have q234 : x15_2 < (l0.length : Int) := zo (by assumption)
                 obtain ⟨ad234, e234, hx234_0⟩ := Kd.at_int HR0.out x15_2 p234 q234
                 cases e234
                 replace p234 := eq_true p234
                 replace q234 := eq_true q234
                 go_wp2
                 go_ret
                 exact ⟨by first | rfl | (simp; done) | (simp [*]; done), by repeat (first | exact Drawn0.refl _ | apply Drawn0.step)⟩
               · rw [if_neg c9] at H
                 have c9b0 : decide ((l0.length : Int) < (rd l0 x15_2)) = false := decide_eq_false c9
                 clear c9
                 have c10b0 := eq_true (zo (by assumption) : 0 ≤ x15_2)
                 by_cases c11 : x15_2 ≤ (l0.length : Int)
                 · rw [if_pos c11] at H
                   have c11b0 := eq_true c11
                   have c11b1 : decide (x15_2 ≤ (l0.length : Int)) = true := decide_eq_true c11
                   clear c11
                   obtain ⟨y235, hy235⟩ : ∃ y_ : List Int, y_ = (l0.take (x15_2 : Int).toNat) := ⟨_, rfl⟩
                   replace H : ((slices_Contains_int_int.f k2 y235 (rd l0 x15_2)).bind fun t239 => (if t239 = true then (some false) else (impl_isOrder.l0 k2 l0 l0 (l0.length : Int) (wrap64 (x15_2 + 1))))) = some r := by first | (rw [hy235]; with_reducible exact H) | (have H2_ := (Option.bind_some _ _).symm.trans H; rw [hy235]; with_reducible exact H2_) | (have H2_ := (Option.bind_some _ _).symm.trans H; with_reducible exact H2_) | with_reducible exact H | (rw [hy235]; exact H) | exact H
                   have Ny235 := zk hy235
                   clear hy235
                   replace H := Option.bind_eq_some_iff.mp H
                   obtain ⟨t239, A120, H⟩ := H
                   try dsimp only at H
                   have A12 := zk A120
                   clear A120
                   by_cases c13 : t239 = true
                   · subst c13
                     have H1 : (some false) = some r := by rw [if_pos rfl] at H; exact H
                     clear H
                     have H := H1
                     clear H1
                     obtain rfl := Option.some.inj H
                     have p234 : 0 ≤ (x15_2 : Int) := zo (by assumption)
                     have q234 : x15_2 < (l0.length : Int) := zo (by assumption)
                     obtain ⟨ad234, e234, hx234_0⟩ := Kd.at_int HR0.out x15_2 p234 q234
                     cases e234
                     replace p234 := eq_true p234
                     replace q234 := eq_true q234
                     have q14 : (x15_2 : Int) ≤ ((l0.length : Int) : Int) := zo (by assumption)
                     obtain ⟨i014, hi014, _, hsz14, _⟩ := info_parts info3
                     have hroom14 : l0.length ≤ c0 := HC0.out
                     have hC14 : Kd.C (Kd.int .i64) _ (some ad234) l0.length l0 := HR0.out
                     have hcut14 := cut_to (P := Try.prog) 22 3 .i64 Try.underlying22 hi014 (some ad234) l0.length c0 x15_2 (zo (by assumption)) q14 hroom14
                     have hr14 := Kd.C_take (m := (x15_2 : Int).toNat) hC14 (by omega)
                     have hy14 : y235.length = (x15_2 : Int).toNat := (by rw [Ny235.out, List.length_take]; omega)
                     rw [← Ny235.out] at hr14
                     rw [← hy14] at hcut14
                     have HR238 := zk hr14
                     have HC238 := zk (show y235.length ≤ c0 from by omega)
                     clear hr14 hC14 hroom14 hi014 hsz14
                     have KY14 := zk hy14
                     clear hy14
                     replace q14 := eq_true q14
                     go_wp2_with (first | (go_at_call 236; (with_reducible refine (slices_Contains_int_int.calls k2 _ _ y235 (rd l0 x15_2) true _ ?side1 ?side2 A12.out).mono ?_); (case side1 => repeat (first | exact HR238.out | (with_reducible refine zv ?_ _) | (with_reducible refine zu ?_ _) | (with_reducible refine zw ?_))); (case side2 => exact HC238.out); rintro e w' ⟨rfl, ⟨nd, rfl⟩⟩))
                     go_ret
                     exact ⟨by first | rfl | (simp; done) | (simp [*]; done), by repeat (first | exact Drawn0.refl _ | apply Drawn0.step)⟩
                   · replace c13 := Bool.eq_false_iff.mpr c13
                     subst c13
                     have H1 : (impl_isOrder.l0 k2 l0 l0 (l0.length : Int) (wrap64 (x15_2 + 1))) = some r := by rw [if_neg (show ¬ (false = true) by decide)] at H; exact H
                     clear H
                     have H := H1
                     clear H1
                     have H' := zk H
                     clear H
                     have p234 : 0 ≤ (x15_2 : Int) := zo (by assumption)
                     have q234 : x15_2 < (l0.length : Int) := zo (by assumption)
                     obtain ⟨ad234, e234, hx234_0⟩ := Kd.at_int HR0.out x15_2 p234 q234
                     cases e234
                     replace p234 := eq_true p234
                     replace q234 := eq_true q234
                     have q15 : (x15_2 : Int) ≤ ((l0.length : Int) : Int) := zo (by assumption)
                     obtain ⟨i015, hi015, _, hsz15, _⟩ := info_parts info3
                     have hroom15 : l0.length ≤ c0 := HC0.out
                     have hC15 : Kd.C (Kd.int .i64) _ (some ad234) l0.length l0 := HR0.out
                     have hcut15 := cut_to (P := Try.prog) 22 3 .i64 Try.underlying22 hi015 (some ad234) l0.length c0 x15_2 (zo (by assumption)) q15 hroom15
                     have hr15 := Kd.C_take (m := (x15_2 : Int).toNat) hC15 (by omega)
                     have hy15 : y235.length = (x15_2 : Int).toNat := (by rw [Ny235.out, List.length_take]; omega)
                     rw [← Ny235.out] at hr15
                     rw [← hy15] at hcut15
                     have HR238 := zk hr15
                     have HC238 := zk (show y235.length ≤ c0 from by omega)
                     clear hr15 hC15 hroom15 hi015 hsz15
                     have KY15 := zk hy15
                     clear hy15
                     replace q15 := eq_true q15
                     go_wp2_with (first | (go_at_call 236; (with_reducible refine (slices_Contains_int_int.calls k2 _ _ y235 (rd l0 x15_2) false _ ?side1 ?side2 A12.out).mono ?_); (case side1 => repeat (first | exact HR238.out | (with_reducible refine zv ?_ _) | (with_reducible refine zu ?_ _) | (with_reducible refine zw ?_))); (case side2 => exact HC238.out); rintro e w' ⟨rfl, ⟨nd, rfl⟩⟩))
                     go_roundg k2
                     case measure => have := HJ1.out; have := HK2.out; omega
                     case rel => exact ⟨(wrap64 (x15_2 + 1)), (by first | rfl | (simp; done) | (simp [*]; done)), H', ⟨by have := HJ1.out; have := HK2.out; omega⟩, by repeat (first | exact Drawn0.refl _ | apply Drawn0.step)⟩
                 · rw [if_neg c11] at H
                   exact absurd H (by simp)
           · rw [if_neg c7] at H
             exact absurd H (by simp)
         · rw [if_neg c6] at H
           exact absurd H (by simp)
       · rw [if_neg c5] at H
         have c5b0 : decide (x15_2 < (l0.length : Int)) = false := decide_eq_false c5
         clear c5
         obtain rfl := Option.some.inj H
         go_wp2
         go_ret
         exact ⟨by first | rfl | (simp; done) | (simp [*]; done), by repeat (first | exact Drawn0.refl _ | apply Drawn0.step)⟩

end Go.Proofs.Ytlkddcabjcejdaa.MFnStackWords
