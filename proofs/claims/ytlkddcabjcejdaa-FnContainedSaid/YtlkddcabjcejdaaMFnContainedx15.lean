/- Functions that FnContained comes to, a walk for each: by wip/tools/mk.py and post.py. No condition. -/
import Derived.Test.YtlkddcabjcejdaaMFnContainedx0
import Derived.Test.YtlkddcabjcejdaaMFnContainedx1
import Derived.Test.YtlkddcabjcejdaaMFnContainedx3
import Derived.Test.YtlkddcabjcejdaaMFnContainedx9
import Derived.Test.YtlkddcabjcejdaaMFnContainedx10
import Derived.Test.YtlkddcabjcejdaaMFnContainedx11
import Derived.Test.YtlkddcabjcejdaaMFnContainedx13
import Derived.Test.YtlkddcabjcejdaaMFnContainedx14
namespace Go.Proofs.Ytlkddcabjcejdaa.MFnContained
open Go.RowKit Go.Proofs.YtlkddcabjcejdaaW.PrintWords Go.Proofs.YtlkddcabjcejdaaW.PrintLast Go.Proofs.YtlkddcabjcejdaaW.PrintMore
attribute [local go_sem] max2_int min2_int max_two min_two max_three min_three max_four min_four
set_option linter.unusedVariables false
set_option linter.unusedSimpArgs false

/-! ### spec_FewestDrops: function 135 -/
mutual
def spec_FewestDrops.j0 : Nat → List Int → List Int → Bool → Option (List Int × Bool)
 | 0, _, _, _ => none
 | k + 1, x0, x1, x17 => if x17 = true then (some ((([] : List Int)), false)) else (spec_FewestDrops.l0 k x0 x1 0)
def spec_FewestDrops.l0 : Nat → List Int → List Int → Int → Option (List Int × Bool)
 | 0, _, _, _ => none
 | k + 1, x0, x1, x6 => if x6 < (x0.length : Int) then ((spec_l3Choices.f k (([] : List Int)) (x0.length : Int) x6).bind fun t544 => (spec_FewestDrops.l1 k x0 x1 x6 t544 0)) else (some ((([] : List Int)), false))
def spec_FewestDrops.l1 : Nat → List Int → List Int → Int → List (List Int) → Int → Option (List Int × Bool)
 | 0, _, _, _, _, _ => none
 | k + 1, x0, x1, x6, x7, x8 => if x8 < (x7.length : Int) then (if 0 ≤ x8 then ((spec_l3Others.f k (rd_L1 x7 x8) (x0.length : Int)).bind fun t548 => ((spec_l3At.f k x0 t548).bind fun t551 => ((spec_l3Shape.f k t551).bind fun t554 => ((spec_l3In.f k t554 x1).bind fun t557 => (if t557 = true then (spec_FewestDrops.l1 k x0 x1 x6 x7 (wrap64 (x8 + 1))) else (some (rd_L1 x7 x8, true))))))) else (none)) else (spec_FewestDrops.l0 k x0 x1 (wrap64 (x6 + 1)))
end
def spec_FewestDrops.f (k : Nat) (l0 : List Int) (l1 : List Int) : Option (List Int × Bool) := (spec_l3Good.f k l0 l1).bind fun t534 => (if t534 = true then (spec_FewestDrops.j0 k l0 l1 ((l1.length : Int) == 1)) else (spec_FewestDrops.j0 k l0 l1 true))
set_option maxHeartbeats 8000000 in
set_option maxRecDepth 100000 in
theorem spec_FewestDrops.calls (k : Nat) (A0 : Option Addr) (c0 : Nat) (l0 : List Int) (A1 : Option Addr) (c1 : Nat) (l1 : List Int) (r1 : List Int) (r2 : Bool) (w : World) (hr0 : Kd.C (Kd.int .i64) w A0 l0.length l0) (hc0 : l0.length ≤ c0) (hr1 : Kd.C (Kd.int .i64) w A1 l1.length l1) (hc1 : l1.length ≤ c1) (h : spec_FewestDrops.f k l0 l1 = some (r1, r2)) :
 Calls Try.prog 135 #[.slice A0 l0.length c0, .slice A1 l1.length c1] w fun e w' => ∃ v0_ : Value, e = .returned (.tuple #[v0_, .bool r2]) ∧ Kd.V (Kd.int .i64) 3 w' w.heap.size (fun k_ => (w.heap.size ≤ k_)) v0_ r1 ∧ Below w.heap.size w w' := by
 have HR0 := zk hr0
 have HC0 := zk hc0
 clear hr0 hc0
 have HR1 := zk hr1
 have HC1 := zk hc1
 clear hr1 hc1
 have HB := zk (Below.refl w.heap.size w)
 have H := h
 unfold spec_FewestDrops.f at H
 clear h
 have HC3 := zk H
 clear H
 go_enter Try.func135, Try.ntmps135
 go_upto_region 1 with (fail)
 go_cut [17] (fun v17 wc => ∃ (kq : Nat) (x17_2 : Bool), v17 = .bool x17_2 ∧ Aside0 (spec_FewestDrops.j0 kq l0 l1 x17_2 = some (r1, r2)) ∧ Aside0 (kq ≤ k) ∧ Aside0 (Below w.heap.size w wc))
 case first =>
  have H := HC3.out
  clear HC3
  replace H := Option.bind_eq_some_iff.mp H
  obtain ⟨t534, A40, H⟩ := H
  try dsimp only at H
  have A4 := zk A40
  clear A40
  by_cases c5 : t534 = true
  rotate_left
  · replace c5 := Bool.eq_false_iff.mpr c5
    subst c5
    have H1 : (spec_FewestDrops.j0 k l0 l1 true) = some (r1, r2) := by rw [if_neg (show ¬ (false = true) by decide)] at H; exact H
    clear H
    have H := H1
    clear H1
    have H' := zk H
    clear H
    go_wp2_with (first | ((with_reducible refine gate_callee (f := 239) rfl ?_); refine zG (some 11) Try.func239 #[.slice A0 l0.length c0, .slice A1 l1.length c1] ?_; (with_reducible refine (spec_l3Good.calls k _ _ l0 _ _ l1 false _ ?side1 ?side2 ?side3 ?side4 A4.out).mono ?_); (case side1 => exact zC (Kd.C_below HR0.out HB.out)); (case side2 => exact HC0.out); (case side3 => exact zC (Kd.C_below HR1.out HB.out)); (case side4 => exact HC1.out); rintro e w' ⟨rfl, ⟨nd, rfl⟩⟩; refine ⟨_, rfl, ?_⟩))
    go_meet
    case rel => exact ⟨_, (true), (by first | rfl | (simp; done) | (simp [*]; done)), H', ⟨by first | omega | exact Nat.le_refl _⟩, ⟨by repeat (first | exact HB.out | apply za | apply zd | apply ze)⟩⟩
  subst c5
  have H1 : (spec_FewestDrops.j0 k l0 l1 ((l1.length : Int) == 1)) = some (r1, r2) := by rw [if_pos rfl] at H; exact H
  clear H
  have H := H1
  clear H1
  have H' := zk H
  clear H
  go_wp2_with (first | ((with_reducible refine gate_callee (f := 239) rfl ?_); refine zG (some 11) Try.func239 #[.slice A0 l0.length c0, .slice A1 l1.length c1] ?_; (with_reducible refine (spec_l3Good.calls k _ _ l0 _ _ l1 true _ ?side1 ?side2 ?side3 ?side4 A4.out).mono ?_); (case side1 => exact zC (Kd.C_below HR0.out HB.out)); (case side2 => exact HC0.out); (case side3 => exact zC (Kd.C_below HR1.out HB.out)); (case side4 => exact HC1.out); rintro e w' ⟨rfl, ⟨nd, rfl⟩⟩; refine ⟨_, rfl, ?_⟩))
  go_meet
  case rel => exact ⟨_, (((l1.length : Int) == 1)), (by first | rfl | (simp; done) | (simp [*]; done)), H', ⟨by first | omega | exact Nat.le_refl _⟩, ⟨by repeat (first | exact HB.out | apply za | apply zd | apply ze)⟩⟩
 case rest =>
  clear HC3
  try clear c1
  try clear c2
  try clear p2
  try clear c5
  obtain ⟨kq, x17_2, rfl, HA, HJ2, HB⟩ := hcut
  cases kq with
  | zero => exact absurd HA.out (by simp [spec_FewestDrops.j0])
  | succ kj2 =>
   have H := HA.out
   clear HA
   simp only [spec_FewestDrops.j0] at H
   by_cases c6 : x17_2 = true
   rotate_left
   · replace c6 := Bool.eq_false_iff.mpr c6
     subst c6
     have H1 : (spec_FewestDrops.l0 kj2 l0 l1 0) = some (r1, r2) := by rw [if_neg (show ¬ (false = true) by decide)] at H; exact H
     clear H
     have H := H1
     clear H1
     have H' := zk H
     clear H
     go_wp2
     go_loopg [6] kj2 (fun kq v6 w' => ∃ (x6_2 : Int), v6 = .int .i64 x6_2 ∧ Aside0 (spec_FewestDrops.l0 kq l0 l1 x6_2 = some (r1, r2)) ∧ Aside0 (kq ≤ kj2) ∧ Aside0 (Below w.heap.size w w'))
     case atStart => exact ⟨(0), (by first | rfl | (simp; done) | (simp [*]; done)), H', ⟨Nat.le_refl _⟩, ⟨by repeat (first | exact HB.out | apply za | apply zd | apply ze)⟩⟩
     case round =>
      clear H'
      try clear c1
      try clear c2
      try clear p2
      try clear c5
      try clear c6
      try clear p2
      obtain ⟨x6_2, rfl, HA, HK2, HB⟩ := hrel
      cases gk with
      | zero => exact absurd HA.out (by simp [spec_FewestDrops.l0])
      | succ k2 =>
       have H := HA.out
       clear HA
       simp only [spec_FewestDrops.l0] at H
       by_cases c9 : x6_2 < (l0.length : Int)
       rotate_left
       · rw [if_neg c9] at H
         have c9b0 := decide_eq_false c9
         clear c9
         obtain ⟨y538, hy538⟩ : ∃ y_ : List Int, y_ = (([] : List Int)) := ⟨_, rfl⟩
         replace H : (some (y538, false)) = some (r1, r2) := by first | (rw [hy538]; with_reducible exact H) | (have H2_ := (Option.bind_some _ _).symm.trans H; rw [hy538]; with_reducible exact H2_) | (have H2_ := (Option.bind_some _ _).symm.trans H; with_reducible exact H2_) | with_reducible exact H | (rw [hy538]; exact H) | exact H
         have Ny538 := zk hy538
         clear hy538
         simp only [Option.some.injEq, Prod.mk.injEq] at H
         obtain ⟨rfl, rfl⟩ := H
         go_wp2_with (first | ((with_reducible refine gate_dst (N := 53) rfl ?_); (try (refine gate_guard (by rfl) ?_; dsimp only)); refine zL 53 3 [] (Below.refl _ _) (Nat.le_refl _) ?_; intro v539 w39 ho40 hb hg_ hnew_; clear hg_ hnew_; (first | rw [← Ny538.out] at ho40 | (simp only [Int.reduceToNat] at ho40; rw [← Ny538.out] at ho40)); have HO540 := zk (Kd.R_lower (Kd.R_newM (M := fun k_ => (w.heap.size ≤ k_)) ho40 (below_size (zB HB)) (fun k_ h_ => h_)) (below_size (zB HB))); replace HB := zF HB hb; clear hb ho40))
         go_ret2
         exact ⟨_, by first | rfl | (simp [errW_none, errW_some] <;> rfl) | (simp [*, errW_none, errW_some] <;> rfl), Kd.R_V (by (with_reducible repeat (first | apply zs | apply zr | apply zt)); exact Kd.R_mono HO540.out (fun _ hk => hk.1)), by repeat (first | exact HB.out | apply za | apply zd | apply ze)⟩
       rw [if_pos c9] at H
       have c9b0 := decide_eq_true c9
       clear c9
       obtain ⟨y541, hy541⟩ : ∃ y_ : List Int, y_ = (([] : List Int)) := ⟨_, rfl⟩
       replace H : ((spec_l3Choices.f k2 y541 (l0.length : Int) x6_2).bind fun t544 => (spec_FewestDrops.l1 k2 l0 l1 x6_2 t544 0)) = some (r1, r2) := by first | (rw [hy541]; with_reducible exact H) | (have H2_ := (Option.bind_some _ _).symm.trans H; rw [hy541]; with_reducible exact H2_) | (have H2_ := (Option.bind_some _ _).symm.trans H; with_reducible exact H2_) | with_reducible exact H | (rw [hy541]; exact H) | exact H
       have Ny541 := zk hy541
       clear hy541
       replace H := Option.bind_eq_some_iff.mp H
       obtain ⟨t544, A100, H⟩ := H
       try dsimp only at H
       have A10 := zk A100
       clear A100
       have H' := zk H
       clear H
       go_wp2_with (first | ((with_reducible refine gate_dst (N := 25) rfl ?_); (try (refine gate_guard (by rfl) ?_; dsimp only)); refine zL 25 3 [] (Below.refl _ _) (Nat.le_refl _) ?_; intro v542 w11 ho12 hb hg_ hnew_; clear hg_ hnew_; (first | rw [← Ny541.out] at ho12 | (simp only [Int.reduceToNat] at ho12; rw [← Ny541.out] at ho12)); have HO543 := zk (Kd.R_lower (Kd.R_newM (M := fun k_ => (w.heap.size ≤ k_)) ho12 (below_size (zB HB)) (fun k_ h_ => h_)) (below_size (zB HB))); replace HB := zF HB hb; clear hb ho12; obtain ⟨Ao13, co13, eo13⟩ := Kd.R_slice HO543.out; subst eo13) | ((with_reducible refine gate_callee (f := 155) rfl ?_); refine zG (some 29) Try.func155 #[.slice Ao13 y541.length co13, .int .i64 (l0.length : Int), .int .i64 x6_2] ?_; (with_reducible refine (spec_l3Choices.calls k2 (fun k_ => some k_ = (.slice Ao13 y541.length co13 : Value).ownBlock) _ _ y541 (l0.length : Int) x6_2 t544 _ ?side1 A10.out).mono ?_); (case side1 => exact Kd.R_V (Kd.R_tight rfl (HO543.out))); rintro e w14 ⟨v545, rfl, ho0, hb⟩; refine ⟨_, rfl, ?_⟩; have HO546 := zk (Kd.N_lower (Kd.N_mono (ok' := fun k_ => (w.heap.size ≤ k_)) ho0 (fun k_ hk_ => Or.elim hk_ (fun hs_ => ((HO543.out).1 k_ hs_.symm).1) (fun hn_ => (Nat.le_trans (below_size (zB HB)) hn_)))) (below_size (zB HB))); replace HO543 := zk (Kd.R_below (zR HO543) hb); replace HB := zF HB hb; (try clear hb ho0)))
       go_loopg [8] k2 (fun kq v8 w' => ∃ (x8_3 : Int), v8 = .int .i64 x8_3 ∧ Aside0 (spec_FewestDrops.l1 kq l0 l1 x6_2 t544 x8_3 = some (r1, r2)) ∧ Aside0 (kq ≤ k2) ∧ Aside0 (Kd.N (Kd.slice 3 (Kd.int .i64)) 22 w' w.heap.size (fun k_ => (w.heap.size ≤ k_)) v545 t544) ∧ Aside0 (Below w.heap.size w w'))
       case atStart => exact ⟨(0), (by first | rfl | (simp; done) | (simp [*]; done)), H', ⟨Nat.le_refl _⟩, ⟨by (with_reducible repeat (first | apply Kd.N_alloc | apply Kd.N_drewN | apply Kd.N_drew)); exact HO546.out⟩, ⟨by repeat (first | exact HB.out | apply za | apply zd | apply ze)⟩⟩
       case round =>
        clear H'
        try clear c1
        try clear c2
        try clear p2
        try clear c5
        try clear c6
        try clear c9
        try clear c9b0
        try clear c13
        try clear p2
        obtain ⟨x8_3, rfl, HA, HK3, HO_7, HB⟩ := hrel
        cases gk with
        | zero => exact absurd HA.out (by simp [spec_FewestDrops.l1])
        | succ k3 =>
         have H := HA.out
         clear HA
         simp only [spec_FewestDrops.l1] at H
         by_cases c15 : x8_3 < (t544.length : Int)
         rotate_left
         · rw [if_neg c15] at H
           have c15b0 := decide_eq_false c15
           clear c15
           have H' := zk H
           clear H
           obtain ⟨Ao38, co38, eo38⟩ := Kd.N_slice HO_7.out
           subst eo38
           go_wp2
           go_roundg k3
           case measure => have := HJ2.out; have := HK2.out; have := HK3.out; omega
           case rel => exact ⟨(wrap64 (x6_2 + 1)), (by first | rfl | (simp; done) | (simp [*]; done)), H', ⟨by have := HJ2.out; have := HK2.out; have := HK3.out; omega⟩, ⟨by repeat (first | exact HB.out | apply za | apply zd | apply ze)⟩⟩
         rw [if_pos c15] at H
         have c15b0 := decide_eq_true c15
         clear c15
         by_cases c16 : 0 ≤ x8_3
         rotate_left
         · rw [if_neg c16] at H
           exact absurd H (by simp)
         rw [if_pos c16] at H
         have c16b0 := decide_eq_true c16
         clear c16
         replace H := Option.bind_eq_some_iff.mp H
         obtain ⟨t548, A170, H⟩ := H
         try dsimp only at H
         have A17 := zk A170
         clear A170
         replace H := Option.bind_eq_some_iff.mp H
         obtain ⟨t551, A180, H⟩ := H
         try dsimp only at H
         have A18 := zk A180
         clear A180
         replace H := Option.bind_eq_some_iff.mp H
         obtain ⟨t554, A190, H⟩ := H
         try dsimp only at H
         have A19 := zk A190
         clear A190
         replace H := Option.bind_eq_some_iff.mp H
         obtain ⟨t557, A200, H⟩ := H
         try dsimp only at H
         have A20 := zk A200
         clear A200
         by_cases c21 : t557 = true
         rotate_left
         · replace c21 := Bool.eq_false_iff.mpr c21
           subst c21
           have H1 : (some (rd_L1 t544 x8_3, true)) = some (r1, r2) := by rw [if_neg (show ¬ (false = true) by decide)] at H; exact H
           clear H
           have H := H1
           clear H1
           simp only [Option.some.injEq, Prod.mk.injEq] at H
           obtain ⟨rfl, rfl⟩ := H
           obtain ⟨Ao30, co30, eo30⟩ := Kd.N_slice HO_7.out
           subst eo30
           have p547 : 0 ≤ (x8_3 : Int) := zo (by assumption)
           have q547 : x8_3 < (t544.length : Int) := zo (by assumption)
           obtain ⟨ad547, A547_0, c547_0, e547, hx547_0, hl547_0, hi547_0⟩ := at_L1 (Kd.N_reads' HO_7.out).2.2 x8_3 p547 q547
           cases e547
           obtain ⟨ce547, hce547, hMe547, hcc547⟩ := Kd.N_get HO_7.out [] x8_3 p547 (by first | exact q547 | exact zo (by assumption) | (have e_ := (Kd.N_reads' HO_7.out).1; omega))
           obtain ⟨ua547_0, uc547_0, rfl, ul547_0, ge547_0⟩ := Kd.FK_slice_open hMe547
           have hv547_0 := hcc547 0 _ rfl
           rw [Nat.add_zero, show ((Kd.slice 3 (Kd.int .i64))).sz = 1 from rfl, Nat.mul_one] at hv547_0
           replace hv547_0 := Option.some.inj (hv547_0.symm.trans hx547_0)
           injection hv547_0 with hva_ hvn_ hvc_
           rw [hva_] at ge547_0
           rw [hvc_] at ul547_0
           have HL547_0 := zk (show Kd.V (Kd.int .i64) 3 _ w.heap.size _ _ (rd_L1 t544 x8_3) from Kd.V_mk ul547_0 ge547_0)
           clear hva_ hvn_ hvc_ ge547_0 ul547_0
           clear hcc547 hce547
           have HR547_0 := zk hi547_0
           have HC547_0 := zk hl547_0
           clear hi547_0 hl547_0
           replace p547 := eq_true p547
           replace q547 := eq_true q547
           go_wp2_with (first | ((with_reducible refine gate_callee (f := 243) rfl ?_); refine zG (some 43) Try.func243 #[.slice A547_0 (rd_L1 t544 x8_3).length c547_0, .int .i64 (l0.length : Int)] ?_; (with_reducible refine (spec_l3Others.calls k3 _ _ (rd_L1 t544 x8_3) (l0.length : Int) t548 _ ?side1 ?side2 A17.out).mono ?_); (case side1 => exact zC HR547_0.out); (case side2 => exact HC547_0.out); rintro e w31 ⟨v549, rfl, ho0, hb⟩; refine ⟨_, rfl, ?_⟩; have HO550 := zk (Kd.R_lower (Kd.R_newM (M := fun k_ => (w.heap.size ≤ k_)) ho0 (below_size (zB HB)) (fun k_ h_ => h_)) (below_size (zB HB))); replace HO_7 := zEN HO_7 ho0 hb; replace HL547_0 := zk (Kd.V_elder' (zV HL547_0) (Kd.R_base ho0) hb); replace HR547_0 := zk (Kd.C_below (zC HR547_0.out) hb); replace HB := zF HB hb; (try clear hb ho0); obtain ⟨Ao32, co32, eo32⟩ := Kd.R_slice HO550.out; subst eo32) | ((with_reducible refine gate_callee (f := 157) rfl ?_); refine zG (some 44) Try.func157 #[.slice A0 l0.length c0, .slice Ao32 t548.length co32] ?_; (with_reducible refine (spec_l3At.calls k3 _ _ l0 _ _ t548 t551 _ ?side1 ?side2 ?side3 ?side4 A18.out).mono ?_); (case side1 => exact zC (Kd.C_below HR0.out HB.out)); (case side2 => exact HC0.out); (case side3 => exact zC (Kd.R_reads' HO550.out).2.2); (case side4 => exact (Kd.R_reads' HO550.out).2.1); rintro e w33 ⟨v552, rfl, ho0, hb⟩; refine ⟨_, rfl, ?_⟩; have HO553 := zk (Kd.R_lower (Kd.R_new' (Kd.R_newM (M := fun k_ => (w.heap.size ≤ k_)) ho0 (below_size (zB HB)) (fun k_ h_ => h_)) (Kd.R_lt (zR HO550))) (below_size (zB HB))); replace HO_7 := zEN HO_7 ho0 hb; replace HL547_0 := zk (Kd.V_elder' (zV HL547_0) (Kd.R_base ho0) hb); replace HO550 := zE HO550 ho0 hb; replace HR547_0 := zk (Kd.C_below (zC HR547_0.out) hb); replace HB := zF HB hb; (try clear hb ho0); obtain ⟨Ao34, co34, eo34⟩ := Kd.R_slice HO553.out; subst eo34) | ((with_reducible refine gate_callee (f := 156) rfl ?_); refine zG (some 45) Try.func156 #[.slice Ao34 t551.length co34] ?_; (with_reducible refine (spec_l3Shape.calls k3 _ _ t551 t554 _ ?side1 ?side2 A19.out).mono ?_); (case side1 => exact zC (Kd.R_reads' HO553.out).2.2); (case side2 => exact (Kd.R_reads' HO553.out).2.1); rintro e w35 ⟨v555, rfl, ho0, hb⟩; refine ⟨_, rfl, ?_⟩; have HO556 := zk (Kd.R_lower (Kd.R_new' (Kd.R_new' (Kd.R_newM (M := fun k_ => (w.heap.size ≤ k_)) ho0 (below_size (zB HB)) (fun k_ h_ => h_)) (Kd.R_lt (zR HO550))) (Kd.R_lt (zR HO553))) (below_size (zB HB))); replace HO_7 := zEN HO_7 ho0 hb; replace HL547_0 := zk (Kd.V_elder' (zV HL547_0) (Kd.R_base ho0) hb); replace HO550 := zE HO550 ho0 hb; replace HO553 := zE HO553 ho0 hb; replace HR547_0 := zk (Kd.C_below (zC HR547_0.out) hb); replace HB := zF HB hb; (try clear hb ho0); obtain ⟨Ao36, co36, eo36⟩ := Kd.R_slice HO556.out; subst eo36) | ((with_reducible refine gate_callee (f := 240) rfl ?_); refine zG (some 47) Try.func240 #[.slice Ao36 t554.length co36, .slice A1 l1.length c1] ?_; (with_reducible refine (spec_l3In.calls k3 _ _ t554 _ _ l1 false _ ?side1 ?side2 ?side3 ?side4 A20.out).mono ?_); (case side1 => exact zC (Kd.R_reads' HO556.out).2.2); (case side2 => exact (Kd.R_reads' HO556.out).2.1); (case side3 => exact zC (Kd.C_below HR1.out HB.out)); (case side4 => exact HC1.out); rintro e w37 ⟨rfl, hb⟩; refine ⟨_, rfl, ?_⟩; replace HO_7 := zk (Kd.N_below (zN HO_7) hb); replace HL547_0 := zk (Kd.V_below (zV HL547_0) hb); replace HO550 := zk (Kd.R_below (zR HO550) hb); replace HO553 := zk (Kd.R_below (zR HO553) hb); replace HO556 := zk (Kd.R_below (zR HO556) hb); replace HR547_0 := zk (Kd.C_below (zC HR547_0.out) hb); replace HB := zF HB hb; (try clear hb); (try clear hb2); (try clear hk); (try clear hi); have p558 : 0 ≤ (x8_3 : Int) := zo (by assumption); have q558 : x8_3 < (t544.length : Int) := zo (by assumption); obtain ⟨ad558, A558_0, c558_0, e558, hx558_0, hl558_0, hi558_0⟩ := at_L1 (Kd.N_reads' HO_7.out).2.2 x8_3 p558 q558; obtain rfl : ad547 = ad558 := (by injection e558); obtain ⟨ce558, hce558, hMe558, hcc558⟩ := Kd.N_get HO_7.out [] x8_3 p558 (by first | exact q558 | exact zo (by assumption) | (have e_ := (Kd.N_reads' HO_7.out).1; omega)); obtain ⟨ua558_0, uc558_0, rfl, ul558_0, ge558_0⟩ := Kd.FK_slice_open hMe558; have hv558_0 := hcc558 0 _ rfl; rw [Nat.add_zero, show ((Kd.slice 3 (Kd.int .i64))).sz = 1 from rfl, Nat.mul_one] at hv558_0; replace hv558_0 := Option.some.inj (hv558_0.symm.trans hx558_0); injection hv558_0 with hva_ hvn_ hvc_; rw [hva_] at ge558_0; rw [hvc_] at ul558_0; have HL558_0 := zk (show Kd.V (Kd.int .i64) 3 _ w.heap.size _ _ (rd_L1 t544 x8_3) from Kd.V_mk ul558_0 ge558_0); clear hva_ hvn_ hvc_ ge558_0 ul558_0; clear hcc558 hce558; have HR558_0 := zk hi558_0; have HC558_0 := zk hl558_0; clear hi558_0 hl558_0; replace p558 := eq_true p558; replace q558 := eq_true q558))
           go_ret2
           exact ⟨_, by first | rfl | (simp [errW_none, errW_some] <;> rfl) | (simp [*, errW_none, errW_some] <;> rfl), by (with_reducible repeat (first | apply Kd.V_alloc | apply Kd.V_drewN | apply Kd.V_drew)); exact Kd.V_mono HL558_0.out (fun _ hk => hk.1.1.1.1), by repeat (first | exact HB.out | apply za | apply zd | apply ze)⟩
         subst c21
         have H1 : (spec_FewestDrops.l1 k3 l0 l1 x6_2 t544 (wrap64 (x8_3 + 1))) = some (r1, r2) := by rw [if_pos rfl] at H; exact H
         clear H
         have H := H1
         clear H1
         have H' := zk H
         clear H
         obtain ⟨Ao22, co22, eo22⟩ := Kd.N_slice HO_7.out
         subst eo22
         have p547 : 0 ≤ (x8_3 : Int) := zo (by assumption)
         have q547 : x8_3 < (t544.length : Int) := zo (by assumption)
         obtain ⟨ad547, A547_0, c547_0, e547, hx547_0, hl547_0, hi547_0⟩ := at_L1 (Kd.N_reads' HO_7.out).2.2 x8_3 p547 q547
         cases e547
         obtain ⟨ce547, hce547, hMe547, hcc547⟩ := Kd.N_get HO_7.out [] x8_3 p547 (by first | exact q547 | exact zo (by assumption) | (have e_ := (Kd.N_reads' HO_7.out).1; omega))
         obtain ⟨ua547_0, uc547_0, rfl, ul547_0, ge547_0⟩ := Kd.FK_slice_open hMe547
         have hv547_0 := hcc547 0 _ rfl
         rw [Nat.add_zero, show ((Kd.slice 3 (Kd.int .i64))).sz = 1 from rfl, Nat.mul_one] at hv547_0
         replace hv547_0 := Option.some.inj (hv547_0.symm.trans hx547_0)
         injection hv547_0 with hva_ hvn_ hvc_
         rw [hva_] at ge547_0
         rw [hvc_] at ul547_0
         have HL547_0 := zk (show Kd.V (Kd.int .i64) 3 _ w.heap.size _ _ (rd_L1 t544 x8_3) from Kd.V_mk ul547_0 ge547_0)
         clear hva_ hvn_ hvc_ ge547_0 ul547_0
         clear hcc547 hce547
         have HR547_0 := zk hi547_0
         have HC547_0 := zk hl547_0
         clear hi547_0 hl547_0
         replace p547 := eq_true p547
         replace q547 := eq_true q547
         go_wp2_with (first | ((with_reducible refine gate_callee (f := 243) rfl ?_); refine zG (some 43) Try.func243 #[.slice A547_0 (rd_L1 t544 x8_3).length c547_0, .int .i64 (l0.length : Int)] ?_; (with_reducible refine (spec_l3Others.calls k3 _ _ (rd_L1 t544 x8_3) (l0.length : Int) t548 _ ?side1 ?side2 A17.out).mono ?_); (case side1 => exact zC HR547_0.out); (case side2 => exact HC547_0.out); rintro e w23 ⟨v549, rfl, ho0, hb⟩; refine ⟨_, rfl, ?_⟩; have HO550 := zk (Kd.R_lower (Kd.R_newM (M := fun k_ => (w.heap.size ≤ k_)) ho0 (below_size (zB HB)) (fun k_ h_ => h_)) (below_size (zB HB))); replace HO_7 := zEN HO_7 ho0 hb; replace HL547_0 := zk (Kd.V_elder' (zV HL547_0) (Kd.R_base ho0) hb); replace HR547_0 := zk (Kd.C_below (zC HR547_0.out) hb); replace HB := zF HB hb; (try clear hb ho0); obtain ⟨Ao24, co24, eo24⟩ := Kd.R_slice HO550.out; subst eo24) | ((with_reducible refine gate_callee (f := 157) rfl ?_); refine zG (some 44) Try.func157 #[.slice A0 l0.length c0, .slice Ao24 t548.length co24] ?_; (with_reducible refine (spec_l3At.calls k3 _ _ l0 _ _ t548 t551 _ ?side1 ?side2 ?side3 ?side4 A18.out).mono ?_); (case side1 => exact zC (Kd.C_below HR0.out HB.out)); (case side2 => exact HC0.out); (case side3 => exact zC (Kd.R_reads' HO550.out).2.2); (case side4 => exact (Kd.R_reads' HO550.out).2.1); rintro e w25 ⟨v552, rfl, ho0, hb⟩; refine ⟨_, rfl, ?_⟩; have HO553 := zk (Kd.R_lower (Kd.R_new' (Kd.R_newM (M := fun k_ => (w.heap.size ≤ k_)) ho0 (below_size (zB HB)) (fun k_ h_ => h_)) (Kd.R_lt (zR HO550))) (below_size (zB HB))); replace HO_7 := zEN HO_7 ho0 hb; replace HL547_0 := zk (Kd.V_elder' (zV HL547_0) (Kd.R_base ho0) hb); replace HO550 := zE HO550 ho0 hb; replace HR547_0 := zk (Kd.C_below (zC HR547_0.out) hb); replace HB := zF HB hb; (try clear hb ho0); obtain ⟨Ao26, co26, eo26⟩ := Kd.R_slice HO553.out; subst eo26) | ((with_reducible refine gate_callee (f := 156) rfl ?_); refine zG (some 45) Try.func156 #[.slice Ao26 t551.length co26] ?_; (with_reducible refine (spec_l3Shape.calls k3 _ _ t551 t554 _ ?side1 ?side2 A19.out).mono ?_); (case side1 => exact zC (Kd.R_reads' HO553.out).2.2); (case side2 => exact (Kd.R_reads' HO553.out).2.1); rintro e w27 ⟨v555, rfl, ho0, hb⟩; refine ⟨_, rfl, ?_⟩; have HO556 := zk (Kd.R_lower (Kd.R_new' (Kd.R_new' (Kd.R_newM (M := fun k_ => (w.heap.size ≤ k_)) ho0 (below_size (zB HB)) (fun k_ h_ => h_)) (Kd.R_lt (zR HO550))) (Kd.R_lt (zR HO553))) (below_size (zB HB))); replace HO_7 := zEN HO_7 ho0 hb; replace HL547_0 := zk (Kd.V_elder' (zV HL547_0) (Kd.R_base ho0) hb); replace HO550 := zE HO550 ho0 hb; replace HO553 := zE HO553 ho0 hb; replace HR547_0 := zk (Kd.C_below (zC HR547_0.out) hb); replace HB := zF HB hb; (try clear hb ho0); obtain ⟨Ao28, co28, eo28⟩ := Kd.R_slice HO556.out; subst eo28) | ((with_reducible refine gate_callee (f := 240) rfl ?_); refine zG (some 47) Try.func240 #[.slice Ao28 t554.length co28, .slice A1 l1.length c1] ?_; (with_reducible refine (spec_l3In.calls k3 _ _ t554 _ _ l1 true _ ?side1 ?side2 ?side3 ?side4 A20.out).mono ?_); (case side1 => exact zC (Kd.R_reads' HO556.out).2.2); (case side2 => exact (Kd.R_reads' HO556.out).2.1); (case side3 => exact zC (Kd.C_below HR1.out HB.out)); (case side4 => exact HC1.out); rintro e w29 ⟨rfl, hb⟩; refine ⟨_, rfl, ?_⟩; replace HO_7 := zk (Kd.N_below (zN HO_7) hb); replace HL547_0 := zk (Kd.V_below (zV HL547_0) hb); replace HO550 := zk (Kd.R_below (zR HO550) hb); replace HO553 := zk (Kd.R_below (zR HO553) hb); replace HO556 := zk (Kd.R_below (zR HO556) hb); replace HR547_0 := zk (Kd.C_below (zC HR547_0.out) hb); replace HB := zF HB hb; (try clear hb); (try clear hb2); (try clear hk); (try clear hi)))
         go_roundg k3
         case measure => have := HJ2.out; have := HK2.out; have := HK3.out; omega
         case rel => exact ⟨(wrap64 (x8_3 + 1)), (by first | rfl | (simp; done) | (simp [*]; done)), H', ⟨by have := HJ2.out; have := HK2.out; have := HK3.out; omega⟩, ⟨by (with_reducible repeat (first | apply Kd.N_alloc | apply Kd.N_drewN | apply Kd.N_drew)); exact Kd.N_mono HO_7.out (fun _ hk => hk.1.1.1)⟩, ⟨by repeat (first | exact HB.out | apply za | apply zd | apply ze)⟩⟩
   subst c6
   have H1 : (some ((([] : List Int)), false)) = some (r1, r2) := by rw [if_pos rfl] at H; exact H
   clear H
   have H := H1
   clear H1
   obtain ⟨y535, hy535⟩ : ∃ y_ : List Int, y_ = (([] : List Int)) := ⟨_, rfl⟩
   replace H : (some (y535, false)) = some (r1, r2) := by first | (rw [hy535]; with_reducible exact H) | (have H2_ := (Option.bind_some _ _).symm.trans H; rw [hy535]; with_reducible exact H2_) | (have H2_ := (Option.bind_some _ _).symm.trans H; with_reducible exact H2_) | with_reducible exact H | (rw [hy535]; exact H) | exact H
   have Ny535 := zk hy535
   clear hy535
   simp only [Option.some.injEq, Prod.mk.injEq] at H
   obtain ⟨rfl, rfl⟩ := H
   go_wp2_with (first | ((with_reducible refine gate_dst (N := 18) rfl ?_); (try (refine gate_guard (by rfl) ?_; dsimp only)); refine zL 18 3 [] (Below.refl _ _) (Nat.le_refl _) ?_; intro v536 w7 ho8 hb hg_ hnew_; clear hg_ hnew_; (first | rw [← Ny535.out] at ho8 | (simp only [Int.reduceToNat] at ho8; rw [← Ny535.out] at ho8)); have HO537 := zk (Kd.R_lower (Kd.R_newM (M := fun k_ => (w.heap.size ≤ k_)) ho8 (below_size (zB HB)) (fun k_ h_ => h_)) (below_size (zB HB))); replace HB := zF HB hb; clear hb ho8))
   go_ret2
   exact ⟨_, by first | rfl | (simp [errW_none, errW_some] <;> rfl) | (simp [*, errW_none, errW_some] <;> rfl), Kd.R_V (by (with_reducible repeat (first | apply zs | apply zr | apply zt)); exact Kd.R_mono HO537.out (fun _ hk => hk.1)), by repeat (first | exact HB.out | apply za | apply zd | apply ze)⟩

/-! ### spec_DrawShapeOf: function 136 -/
def spec_DrawShapeOf.l0 : Nat → List Int → Int → List Int → Int → Int → Option (List Int)
 | 0, _, _, _, _, _ => none
 | k + 1, x4, x5, x560000, x560001, x560002 => if x5 > 0 then ((spec_l1Cur_pick.f x560000 x560001 x560002 200).bind fun bt569 => ((spec_l1Has.f k x4 (wrap64 (bt569.1 - 100))).bind fun t572 => (if t572 = true then ((spec_l1Cur_one.f x560000 bt569.2.1 bt569.2.2 40).bind fun bt573 => (if bt573.1 = true then (if x4.length < 17592186044416 then (spec_DrawShapeOf.l0 k (x4 ++ [wrap64 (bt569.1 - 100)]) (wrap64 (x5 - 1)) x560000 bt573.2.1 bt573.2.2) else (none)) else (spec_DrawShapeOf.l0 k x4 (wrap64 (x5 - 1)) x560000 bt573.2.1 bt573.2.2))) else (if x4.length < 17592186044416 then (spec_DrawShapeOf.l0 k (x4 ++ [wrap64 (bt569.1 - 100)]) (wrap64 (x5 - 1)) x560000 bt569.2.1 bt569.2.2) else (none))))) else (some x4)
def spec_DrawShapeOf.f (k : Nat) (l0 : List Int) : Option (List Int) := (spec_l1Cur_among.f l0 0 0 (([4, 3, 5, 2, 7, 1, 0, 8] : List Int))).bind fun bt566 => (spec_DrawShapeOf.l0 k (([] : List Int)) bt566.1 l0 bt566.2.1 bt566.2.2)
set_option maxHeartbeats 8000000 in
set_option maxRecDepth 100000 in
theorem spec_DrawShapeOf.calls (k : Nat) (A0 : Option Addr) (c0 : Nat) (l0 : List Int) (r : List Int) (w : World) (hr0 : Kd.C (Kd.int .u8) w A0 l0.length l0) (hc0 : l0.length ≤ c0) (h : spec_DrawShapeOf.f k l0 = some r) :
 Calls Try.prog 136 #[.slice A0 l0.length c0] w fun e w' => ∃ v0_ : Value, e = .returned (v0_) ∧ Kd.R (Kd.int .i64) 3 w' w.heap.size (fun _ => True) v0_ r ∧ Below w.heap.size w w' := by
 have hu102 := Try.underlying102
 have HR0 := zk hr0
 have HC0 := zk hc0
 clear hr0 hc0
 have HB := zk (Below.refl w.heap.size w)
 have H := h
 unfold spec_DrawShapeOf.f at H
 clear h
 obtain ⟨y560, hy560⟩ : ∃ y_ : List Int, y_ = (([] : List Int)) := ⟨_, rfl⟩
 replace H : ((spec_l1Cur_among.f l0 0 0 (([4, 3, 5, 2, 7, 1, 0, 8] : List Int))).bind fun bt566 => (spec_DrawShapeOf.l0 k y560 bt566.1 l0 bt566.2.1 bt566.2.2)) = some r := by first | (rw [hy560]; with_reducible exact H) | (have H2_ := (Option.bind_some _ _).symm.trans H; rw [hy560]; with_reducible exact H2_) | (have H2_ := (Option.bind_some _ _).symm.trans H; with_reducible exact H2_) | with_reducible exact H | (rw [hy560]; exact H) | exact H
 have Ny560 := zk hy560
 clear hy560
 obtain ⟨y563, hy563⟩ : ∃ y_ : List Int, y_ = (([4, 3, 5, 2, 7, 1, 0, 8] : List Int)) := ⟨_, rfl⟩
 rw [← hy563] at H
 try rw [zO y563] at H
 try dsimp only at H
 have Ny563 := zk hy563
 clear hy563
 replace H := Option.bind_eq_some_iff.mp H
 obtain ⟨⟨t566, t567, t568⟩, A20, H⟩ := H
 try dsimp only at H
 have A2 := zk A20
 clear A20
 have H' := zk H
 clear H
 go_enter Try.func136, Try.ntmps136
 go_wp2_with (first | ((with_reducible refine gate_dst (N := 9) rfl ?_); refine box_event ?hg (N := 9) ?hd (cs := #[.slice A0 l0.length c0, .int .i64 0, .int .u64 0]) (t := 102) ?hr ?_; (case hd => rfl); (case hg => rfl); (case hr => first | (go_simp; done) | (go_simp; rfl)); intro gb559 hg w3 hbox hb; have HI559 := zk ((⟨_, _, hbox, (by rw [hg]; exact (below_size (zB HB)) : w.heap.size ≤ gb559), HR0.out⟩ : IsS102 w _ gb559 l0 0 0)); have GW559 := zk ((by rw [hg]; exact (below_size (zB HB)) : w.heap.size ≤ gb559)); have GE559 := zk ((by rw [hg]; exact (below_size (zB HB)) : w.heap.size ≤ gb559)); replace HB := zF HB hb; clear hb hbox hg) | ((with_reducible refine gate_dst (N := 10) rfl ?_); refine zL 10 3 [] (Below.refl _ _) (Nat.le_refl _) ?_; intro v561 w4 ho5 hb hg_ hnew_; clear hg_ hnew_; (first | rw [← Ny560.out] at ho5 | (simp only [Int.reduceToNat] at ho5; rw [← Ny560.out] at ho5)); have HO562 := zk (Kd.R_lower ho5 (below_size (zBs HB (IsS102.ge HI559.out)))); replace HB := zk (below_step (zBs HB (IsS102.ge HI559.out)) hb); replace HI559 := zk (IsS102.below (by repeat (first | exact HI559.out | apply IsS102.alloc | apply IsS102.drewN | apply IsS102.drew | apply IsS102.set_1 | apply IsS102.set_2)) hb); clear hb ho5) | ((with_reducible refine gate_dst (N := 12) rfl ?_); refine zL 12 3 [4, 3, 5, 2, 7, 1, 0, 8] (Below.refl _ _) (Nat.le_refl _) ?_; intro v564 w6 ho7 hb hg_ hnew_; clear hg_ hnew_; (first | rw [← Ny563.out] at ho7 | (simp only [Int.reduceToNat] at ho7; rw [← Ny563.out] at ho7)); have HO565 := zk (Kd.R_lower (Kd.R_new' ho7 (Kd.R_lt (zR HO562))) (below_size (zBs HB (IsS102.ge HI559.out)))); replace HO562 := zE HO562 ho7 hb; replace HB := zk (below_step (zBs HB (IsS102.ge HI559.out)) hb); replace HI559 := zk (IsS102.below (by repeat (first | exact HI559.out | apply IsS102.alloc | apply IsS102.drewN | apply IsS102.drew | apply IsS102.set_1 | apply IsS102.set_2)) hb); clear hb ho7; obtain ⟨Ao8, co8, eo8⟩ := Kd.R_slice HO565.out; subst eo8) | ((with_reducible refine gate_callee (f := 195) rfl ?_); refine zG (some 13) Try.func195 #[.pointer (some ⟨gb559, 0, none⟩), .slice Ao8 y563.length co8] ?_; (with_reducible refine (spec_l1Cur_among.calls gb559 l0 0 0 _ _ y563 t566 t567 t568 w _ ?side1 ?side2 ?side3 ?side4 ?side5 A2.out).mono ?_); (case side1 => repeat (first | exact HI559.out | apply IsS102.alloc | apply IsS102.drewN | apply IsS102.drew | apply IsS102.set_1 | apply IsS102.set_2)); (case side2 => exact zBs HB (IsS102.ge HI559.out)); (case side3 => exact zC (Kd.R_reads' HO565.out).2.2); (case side4 => exact (Kd.R_reads' HO565.out).2.1); (case side5 => exact far_slice (IsS102.own_ne HI559.out HO565.out (by decide))); rintro e w9 ⟨rfl, hi, hb, hk⟩; refine ⟨_, rfl, ?_⟩; replace HO562 := zk (Kd.R_mono (Kd.R_keep (IsS102.apart (show IsS102 w _ gb559 l0 0 0 from by repeat (first | exact HI559.out | apply IsS102.alloc | apply IsS102.drewN | apply IsS102.drew | apply IsS102.set_1 | apply IsS102.set_2)) (zR HO562) (by decide)) hk (fun _ h => h.2)) (fun _ h => h.1)); replace HO565 := zk (Kd.R_mono (Kd.R_keep (IsS102.apart (show IsS102 w _ gb559 l0 0 0 from by repeat (first | exact HI559.out | apply IsS102.alloc | apply IsS102.drewN | apply IsS102.drew | apply IsS102.set_1 | apply IsS102.set_2)) (zR HO565) (by decide)) hk (fun _ h => h.2)) (fun _ h => h.1)); replace HB := zk (hb); replace HI559 := zk (hi); (try clear hb); (try clear hb2); (try clear hk); (try clear hi)))
 go_loopg [4, 5] k (fun kq v4 v5 w' => ∃ (x4_1 : List Int) (x5_1 : Int) (x560001_1 : Int) (x560002_1 : Int), v5 = .int .i64 x5_1 ∧ Aside0 (spec_DrawShapeOf.l0 kq x4_1 x5_1 l0 x560001_1 x560002_1 = some r) ∧ Aside0 (kq ≤ k) ∧ Aside0 (Kd.R (Kd.int .i64) 3 w' w.heap.size (fun _ => True) v4 x4_1) ∧ Aside0 (IsS102 w w' gb559 l0 x560001_1 x560002_1) ∧ Aside0 (Below w.heap.size w w'))
 case atStart => exact ⟨(y560), (t566), (t567), (t568), (by first | rfl | (simp; done) | (simp [*]; done)), H', ⟨Nat.le_refl _⟩, ⟨by (with_reducible repeat (first | apply zs | apply zr | apply zt)); exact Kd.R_mono HO562.out (fun _ hk => trivial)⟩, ⟨by repeat (first | exact HI559.out | apply IsS102.alloc | apply IsS102.drewN | apply IsS102.drew | apply IsS102.set_1 | apply IsS102.set_2)⟩, ⟨by repeat (first | (with_reducible first | exact HB.out | apply za | apply zd | apply ze | refine below_set ?_ (IsS102.ge HI559.out)) | exact HB.out)⟩⟩
 case round =>
  clear H'
  try clear c1
  try clear p2
  obtain ⟨x4_1, x5_1, x560001_1, x560002_1, rfl, HA, HK1, HO_4, HI559, HB⟩ := hrel
  cases gk with
  | zero => exact absurd HA.out (by simp [spec_DrawShapeOf.l0])
  | succ k1 =>
   have H := HA.out
   clear HA
   simp only [spec_DrawShapeOf.l0] at H
   by_cases c10 : x5_1 > 0
   rotate_left
   · rw [if_neg c10] at H
     have c10b0 := decide_eq_false c10
     clear c10
     obtain rfl := Option.some.inj H
     go_wp2
     go_ret
     exact ⟨_, by first | rfl | (simp [errW_none, errW_some] <;> rfl) | (simp [*, errW_none, errW_some] <;> rfl), by (with_reducible repeat (first | apply zs | apply zr | apply zt)); exact HO_4.out, by repeat (first | (with_reducible first | exact HB.out | apply za | apply zd | apply ze | refine below_set ?_ (IsS102.ge HI559.out)) | exact HB.out)⟩
   rw [if_pos c10] at H
   have c10b0 := decide_eq_true c10
   clear c10
   replace H := Option.bind_eq_some_iff.mp H
   obtain ⟨⟨t569, t570, t571⟩, A110, H⟩ := H
   try dsimp only at H
   have A11 := zk A110
   clear A110
   replace H := Option.bind_eq_some_iff.mp H
   obtain ⟨t572, A120, H⟩ := H
   try dsimp only at H
   have A12 := zk A120
   clear A120
   by_cases c13 : t572 = true
   rotate_left
   · replace c13 := Bool.eq_false_iff.mpr c13
     subst c13
     have H1 : (if x4_1.length < 17592186044416 then (spec_DrawShapeOf.l0 k1 (x4_1 ++ [wrap64 (t569 - 100)]) (wrap64 (x5_1 - 1)) l0 t570 t571) else (none)) = some r := by rw [if_neg (show ¬ (false = true) by decide)] at H; exact H
     clear H
     have H := H1
     clear H1
     by_cases c24 : x4_1.length < 17592186044416
     rotate_left
     · rw [if_neg c24] at H
       exact absurd H (by simp)
     rw [if_pos c24] at H
     have LMc24 := zk c24
     clear c24
     obtain ⟨y579, hy579⟩ : ∃ y_ : List Int, y_ = (x4_1 ++ [wrap64 (t569 - 100)]) := ⟨_, rfl⟩
     replace H : (spec_DrawShapeOf.l0 k1 y579 (wrap64 (x5_1 - 1)) l0 t570 t571) = some r := by first | (rw [hy579]; with_reducible exact H) | (have H2_ := (Option.bind_some _ _).symm.trans H; rw [hy579]; with_reducible exact H2_) | (have H2_ := (Option.bind_some _ _).symm.trans H; with_reducible exact H2_) | with_reducible exact H | (rw [hy579]; exact H) | exact H
     have Ny579 := zk hy579
     clear hy579
     have H' := zk H
     clear H
     go_wp2_with (first | ((with_reducible refine gate_callee (f := 192) rfl ?_); refine zG (some 19) Try.func192 #[.pointer (some ⟨gb559, 0, none⟩), .int .i64 200] ?_; (with_reducible refine (spec_l1Cur_pick.calls gb559 l0 x560001_1 x560002_1 200 t569 t570 t571 w _ ?side1 ?side2 A11.out).mono ?_); (case side1 => repeat (first | exact HI559.out | apply IsS102.alloc | apply IsS102.drewN | apply IsS102.drew | apply IsS102.set_1 | apply IsS102.set_2)); (case side2 => exact zBs HB (IsS102.ge HI559.out)); rintro e w25 ⟨rfl, hi, hb, hk⟩; refine ⟨_, rfl, ?_⟩; replace HO_4 := zk (Kd.R_mono (Kd.R_keep (IsS102.apart (show IsS102 w _ gb559 l0 x560001_1 x560002_1 from by repeat (first | exact HI559.out | apply IsS102.alloc | apply IsS102.drewN | apply IsS102.drew | apply IsS102.set_1 | apply IsS102.set_2)) (zR HO_4) (by decide)) hk (fun _ h => h.2)) (fun _ h => h.1)); replace HB := zk (hb); replace HI559 := zk (hi); (try clear hb); (try clear hb2); (try clear hk); (try clear hi); obtain ⟨Ao26, co26, eo26⟩ := Kd.R_slice HO_4.out; subst eo26) | ((with_reducible refine gate_callee (f := 244) rfl ?_); refine zG (some 23) Try.func244 #[.slice Ao26 x4_1.length co26, .int .i64 (wrap64 (t569 - 100))] ?_; (with_reducible refine (spec_l1Has.calls k1 _ _ x4_1 (wrap64 (t569 - 100)) false _ ?side1 ?side2 A12.out).mono ?_); (case side1 => exact zC (Kd.R_reads' HO_4.out).2.2); (case side2 => exact (Kd.R_reads' HO_4.out).2.1); rintro e w' ⟨rfl, ⟨nd, rfl⟩⟩; refine ⟨_, rfl, ?_⟩) | ((with_reducible refine gate_builtin (b := .append) (xs := #[.tmp 29, .tmp 31]) rfl ?_); at_builtin; refine Kd.R_append (Kd.int .i64) (w0 := w) w.heap.size rfl (.tmp 29) (.tmp 31) 22 3 (.int .i64 0) 8 rfl Try.underlying22 info3 rfl (by decide) (by omega) (.slice Ao26 x4_1.length co26) x4_1 (wrap64 (t569 - 100)) [.int .i64 (wrap64 (t569 - 100))] (fun _ => True) (fun _ => False) rfl rfl ?aP (fun _ hk => hk.elim) ?aF ?aO ?aB ?aS ?aL ?_; (case aP => exact rfl); (case aB => exact (zBs HB (IsS102.ge HI559.out))); (case aF => exact (fun _ _ => trivial)); (case aO => exact (zR HO_4)); (case aS => exact (below_size (zBs HB (IsS102.ge HI559.out)))); (case aL => have := LMc24.out; omega); intro v580 w27 ho hb hg hat; rw [← Ny579.out] at ho; have HO581 := zk (ho); replace HI559 := zk (IsS102.grown (by repeat (first | exact HI559.out | apply IsS102.alloc | apply IsS102.drewN | apply IsS102.drew | apply IsS102.set_1 | apply IsS102.set_2)) hg (IsS102.own_ne HI559.out HO_4.out (by decide))); replace HB := zk (hb); clear HO_4; clear ho hb hg hat))
     go_roundg k1
     case measure => have := HK1.out; omega
     case rel => exact ⟨(y579), (wrap64 (x5_1 - 1)), (t570), (t571), (by first | rfl | (simp; done) | (simp [*]; done)), H', ⟨by have := HK1.out; omega⟩, ⟨by (with_reducible repeat (first | apply zs | apply zr | apply zt)); exact HO581.out⟩, ⟨by repeat (first | exact HI559.out | apply IsS102.alloc | apply IsS102.drewN | apply IsS102.drew | apply IsS102.set_1 | apply IsS102.set_2)⟩, ⟨by repeat (first | (with_reducible first | exact HB.out | apply za | apply zd | apply ze | refine below_set ?_ (IsS102.ge HI559.out)) | exact HB.out)⟩⟩
   subst c13
   have H1 : ((spec_l1Cur_one.f l0 t570 t571 40).bind fun bt573 => (if bt573.1 = true then (if x4_1.length < 17592186044416 then (spec_DrawShapeOf.l0 k1 (x4_1 ++ [wrap64 (t569 - 100)]) (wrap64 (x5_1 - 1)) l0 bt573.2.1 bt573.2.2) else (none)) else (spec_DrawShapeOf.l0 k1 x4_1 (wrap64 (x5_1 - 1)) l0 bt573.2.1 bt573.2.2))) = some r := by rw [if_pos rfl] at H; exact H
   clear H
   have H := H1
   clear H1
   replace H := Option.bind_eq_some_iff.mp H
   obtain ⟨⟨t573, t574, t575⟩, A140, H⟩ := H
   try dsimp only at H
   have A14 := zk A140
   clear A140
   by_cases c15 : t573 = true
   rotate_left
   · replace c15 := Bool.eq_false_iff.mpr c15
     subst c15
     have H1 : (spec_DrawShapeOf.l0 k1 x4_1 (wrap64 (x5_1 - 1)) l0 t574 t575) = some r := by rw [if_neg (show ¬ (false = true) by decide)] at H; exact H
     clear H
     have H := H1
     clear H1
     have H' := zk H
     clear H
     go_wp2_with (first | ((with_reducible refine gate_callee (f := 192) rfl ?_); refine zG (some 19) Try.func192 #[.pointer (some ⟨gb559, 0, none⟩), .int .i64 200] ?_; (with_reducible refine (spec_l1Cur_pick.calls gb559 l0 x560001_1 x560002_1 200 t569 t570 t571 w _ ?side1 ?side2 A11.out).mono ?_); (case side1 => repeat (first | exact HI559.out | apply IsS102.alloc | apply IsS102.drewN | apply IsS102.drew | apply IsS102.set_1 | apply IsS102.set_2)); (case side2 => exact zBs HB (IsS102.ge HI559.out)); rintro e w21 ⟨rfl, hi, hb, hk⟩; refine ⟨_, rfl, ?_⟩; replace HO_4 := zk (Kd.R_mono (Kd.R_keep (IsS102.apart (show IsS102 w _ gb559 l0 x560001_1 x560002_1 from by repeat (first | exact HI559.out | apply IsS102.alloc | apply IsS102.drewN | apply IsS102.drew | apply IsS102.set_1 | apply IsS102.set_2)) (zR HO_4) (by decide)) hk (fun _ h => h.2)) (fun _ h => h.1)); replace HB := zk (hb); replace HI559 := zk (hi); (try clear hb); (try clear hb2); (try clear hk); (try clear hi); obtain ⟨Ao22, co22, eo22⟩ := Kd.R_slice HO_4.out; subst eo22) | ((with_reducible refine gate_callee (f := 244) rfl ?_); refine zG (some 23) Try.func244 #[.slice Ao22 x4_1.length co22, .int .i64 (wrap64 (t569 - 100))] ?_; (with_reducible refine (spec_l1Has.calls k1 _ _ x4_1 (wrap64 (t569 - 100)) true _ ?side1 ?side2 A12.out).mono ?_); (case side1 => exact zC (Kd.R_reads' HO_4.out).2.2); (case side2 => exact (Kd.R_reads' HO_4.out).2.1); rintro e w' ⟨rfl, ⟨nd, rfl⟩⟩; refine ⟨_, rfl, ?_⟩) | (go_at_call 164; (with_reducible refine (spec_l1Cur_one.calls gb559 l0 t570 t571 40 false t574 t575 w _ ?side1 ?side2 A14.out).mono ?_); (case side1 => repeat (first | exact HI559.out | apply IsS102.alloc | apply IsS102.drewN | apply IsS102.drew | apply IsS102.set_1 | apply IsS102.set_2)); (case side2 => exact zBs HB (IsS102.ge HI559.out)); rintro e w23 ⟨rfl, hi, hb, hk⟩; replace HO_4 := zk (Kd.R_mono (Kd.R_keep (IsS102.apart (show IsS102 w _ gb559 l0 t570 t571 from by repeat (first | exact HI559.out | apply IsS102.alloc | apply IsS102.drewN | apply IsS102.drew | apply IsS102.set_1 | apply IsS102.set_2)) (zR HO_4) (by decide)) hk (fun _ h => h.2)) (fun _ h => h.1)); replace HB := zk (hb); replace HI559 := zk (hi); (try clear hb); (try clear hb2); (try clear hk); (try clear hi)))
     go_roundg k1
     case measure => have := HK1.out; omega
     case rel => exact ⟨(x4_1), (wrap64 (x5_1 - 1)), (t574), (t575), (by first | rfl | (simp; done) | (simp [*]; done)), H', ⟨by have := HK1.out; omega⟩, ⟨by (with_reducible repeat (first | apply zs | apply zr | apply zt)); exact HO_4.out⟩, ⟨by repeat (first | exact HI559.out | apply IsS102.alloc | apply IsS102.drewN | apply IsS102.drew | apply IsS102.set_1 | apply IsS102.set_2)⟩, ⟨by repeat (first | (with_reducible first | exact HB.out | apply za | apply zd | apply ze | refine below_set ?_ (IsS102.ge HI559.out)) | exact HB.out)⟩⟩
   subst c15
   have H1 : (if x4_1.length < 17592186044416 then (spec_DrawShapeOf.l0 k1 (x4_1 ++ [wrap64 (t569 - 100)]) (wrap64 (x5_1 - 1)) l0 t574 t575) else (none)) = some r := by rw [if_pos rfl] at H; exact H
   clear H
   have H := H1
   clear H1
   by_cases c16 : x4_1.length < 17592186044416
   rotate_left
   · rw [if_neg c16] at H
     exact absurd H (by simp)
   rw [if_pos c16] at H
   have LMc16 := zk c16
   clear c16
   obtain ⟨y576, hy576⟩ : ∃ y_ : List Int, y_ = (x4_1 ++ [wrap64 (t569 - 100)]) := ⟨_, rfl⟩
   replace H : (spec_DrawShapeOf.l0 k1 y576 (wrap64 (x5_1 - 1)) l0 t574 t575) = some r := by first | (rw [hy576]; with_reducible exact H) | (have H2_ := (Option.bind_some _ _).symm.trans H; rw [hy576]; with_reducible exact H2_) | (have H2_ := (Option.bind_some _ _).symm.trans H; with_reducible exact H2_) | with_reducible exact H | (rw [hy576]; exact H) | exact H
   have Ny576 := zk hy576
   clear hy576
   have H' := zk H
   clear H
   go_wp2_with (first | ((with_reducible refine gate_callee (f := 192) rfl ?_); refine zG (some 19) Try.func192 #[.pointer (some ⟨gb559, 0, none⟩), .int .i64 200] ?_; (with_reducible refine (spec_l1Cur_pick.calls gb559 l0 x560001_1 x560002_1 200 t569 t570 t571 w _ ?side1 ?side2 A11.out).mono ?_); (case side1 => repeat (first | exact HI559.out | apply IsS102.alloc | apply IsS102.drewN | apply IsS102.drew | apply IsS102.set_1 | apply IsS102.set_2)); (case side2 => exact zBs HB (IsS102.ge HI559.out)); rintro e w17 ⟨rfl, hi, hb, hk⟩; refine ⟨_, rfl, ?_⟩; replace HO_4 := zk (Kd.R_mono (Kd.R_keep (IsS102.apart (show IsS102 w _ gb559 l0 x560001_1 x560002_1 from by repeat (first | exact HI559.out | apply IsS102.alloc | apply IsS102.drewN | apply IsS102.drew | apply IsS102.set_1 | apply IsS102.set_2)) (zR HO_4) (by decide)) hk (fun _ h => h.2)) (fun _ h => h.1)); replace HB := zk (hb); replace HI559 := zk (hi); (try clear hb); (try clear hb2); (try clear hk); (try clear hi); obtain ⟨Ao18, co18, eo18⟩ := Kd.R_slice HO_4.out; subst eo18) | ((with_reducible refine gate_callee (f := 244) rfl ?_); refine zG (some 23) Try.func244 #[.slice Ao18 x4_1.length co18, .int .i64 (wrap64 (t569 - 100))] ?_; (with_reducible refine (spec_l1Has.calls k1 _ _ x4_1 (wrap64 (t569 - 100)) true _ ?side1 ?side2 A12.out).mono ?_); (case side1 => exact zC (Kd.R_reads' HO_4.out).2.2); (case side2 => exact (Kd.R_reads' HO_4.out).2.1); rintro e w' ⟨rfl, ⟨nd, rfl⟩⟩; refine ⟨_, rfl, ?_⟩) | (go_at_call 164; (with_reducible refine (spec_l1Cur_one.calls gb559 l0 t570 t571 40 true t574 t575 w _ ?side1 ?side2 A14.out).mono ?_); (case side1 => repeat (first | exact HI559.out | apply IsS102.alloc | apply IsS102.drewN | apply IsS102.drew | apply IsS102.set_1 | apply IsS102.set_2)); (case side2 => exact zBs HB (IsS102.ge HI559.out)); rintro e w19 ⟨rfl, hi, hb, hk⟩; replace HO_4 := zk (Kd.R_mono (Kd.R_keep (IsS102.apart (show IsS102 w _ gb559 l0 t570 t571 from by repeat (first | exact HI559.out | apply IsS102.alloc | apply IsS102.drewN | apply IsS102.drew | apply IsS102.set_1 | apply IsS102.set_2)) (zR HO_4) (by decide)) hk (fun _ h => h.2)) (fun _ h => h.1)); replace HB := zk (hb); replace HI559 := zk (hi); (try clear hb); (try clear hb2); (try clear hk); (try clear hi)) | ((with_reducible refine gate_builtin (b := .append) (xs := #[.tmp 29, .tmp 31]) rfl ?_); at_builtin; refine Kd.R_append (Kd.int .i64) (w0 := w) w.heap.size rfl (.tmp 29) (.tmp 31) 22 3 (.int .i64 0) 8 rfl Try.underlying22 info3 rfl (by decide) (by omega) (.slice Ao18 x4_1.length co18) x4_1 (wrap64 (t569 - 100)) [.int .i64 (wrap64 (t569 - 100))] (fun _ => True) (fun _ => False) rfl rfl ?aP (fun _ hk => hk.elim) ?aF ?aO ?aB ?aS ?aL ?_; (case aP => exact rfl); (case aB => exact (zBs HB (IsS102.ge HI559.out))); (case aF => exact (fun _ _ => trivial)); (case aO => exact (zR HO_4)); (case aS => exact (below_size (zBs HB (IsS102.ge HI559.out)))); (case aL => have := LMc16.out; omega); intro v577 w20 ho hb hg hat; rw [← Ny576.out] at ho; have HO578 := zk (ho); replace HI559 := zk (IsS102.grown (by repeat (first | exact HI559.out | apply IsS102.alloc | apply IsS102.drewN | apply IsS102.drew | apply IsS102.set_1 | apply IsS102.set_2)) hg (IsS102.own_ne HI559.out HO_4.out (by decide))); replace HB := zk (hb); clear HO_4; clear ho hb hg hat))
   go_roundg k1
   case measure => have := HK1.out; omega
   case rel => exact ⟨(y576), (wrap64 (x5_1 - 1)), (t574), (t575), (by first | rfl | (simp; done) | (simp [*]; done)), H', ⟨by have := HK1.out; omega⟩, ⟨by (with_reducible repeat (first | apply zs | apply zr | apply zt)); exact HO578.out⟩, ⟨by repeat (first | exact HI559.out | apply IsS102.alloc | apply IsS102.drewN | apply IsS102.drew | apply IsS102.set_1 | apply IsS102.set_2)⟩, ⟨by repeat (first | (with_reducible first | exact HB.out | apply za | apply zd | apply ze | refine below_set ?_ (IsS102.ge HI559.out)) | exact HB.out)⟩⟩

/-! ### spec_ShapeOf: function 137 -/
def spec_ShapeOf.l0 : Nat → List Int → Int → Option (List Int × Bool)
 | 0, _, _ => none
 | k + 1, x0, x4 => if x4 < (x0.length : Int) then (if 0 ≤ x4 then (if x4 ≤ (x0.length : Int) then ((spec_l1Has.f k (x0.take (x4 : Int).toNat) (rd x0 x4)).bind fun t591 => (if t591 = true then (some ((([] : List Int)), false)) else (spec_ShapeOf.l0 k x0 (wrap64 (x4 + 1))))) else (none)) else (none)) else ((spec_l3Shape.f k x0).bind fun t595 => (some (t595, true)))
def spec_ShapeOf.f (k : Nat) (l0 : List Int) : Option (List Int × Bool) := (spec_l1In.f (l0.length : Int) 1 7).bind fun t582 => (if t582 = true then (spec_ShapeOf.l0 k l0 0) else (some ((([] : List Int)), false)))
set_option maxHeartbeats 8000000 in
set_option maxRecDepth 100000 in
theorem spec_ShapeOf.calls (k : Nat) (A0 : Option Addr) (c0 : Nat) (l0 : List Int) (r1 : List Int) (r2 : Bool) (w : World) (hr0 : Kd.C (Kd.int .i64) w A0 l0.length l0) (hc0 : l0.length ≤ c0) (h : spec_ShapeOf.f k l0 = some (r1, r2)) :
 Calls Try.prog 137 #[.slice A0 l0.length c0] w fun e w' => ∃ v0_ : Value, e = .returned (.tuple #[v0_, .bool r2]) ∧ Kd.R (Kd.int .i64) 3 w' w.heap.size (fun _ => True) v0_ r1 ∧ Below w.heap.size w w' := by
 have HR0 := zk hr0
 have HC0 := zk hc0
 clear hr0 hc0
 have HB := zk (Below.refl w.heap.size w)
 have H := h
 unfold spec_ShapeOf.f at H
 clear h
 replace H := Option.bind_eq_some_iff.mp H
 obtain ⟨t582, A20, H⟩ := H
 try dsimp only at H
 have A2 := zk A20
 clear A20
 by_cases c3 : t582 = true
 rotate_left
 · replace c3 := Bool.eq_false_iff.mpr c3
   subst c3
   have H1 : (some ((([] : List Int)), false)) = some (r1, r2) := by rw [if_neg (show ¬ (false = true) by decide)] at H; exact H
   clear H
   have H := H1
   clear H1
   obtain ⟨y583, hy583⟩ : ∃ y_ : List Int, y_ = (([] : List Int)) := ⟨_, rfl⟩
   replace H : (some (y583, false)) = some (r1, r2) := by first | (rw [hy583]; with_reducible exact H) | (have H2_ := (Option.bind_some _ _).symm.trans H; rw [hy583]; with_reducible exact H2_) | (have H2_ := (Option.bind_some _ _).symm.trans H; with_reducible exact H2_) | with_reducible exact H | (rw [hy583]; exact H) | exact H
   have Ny583 := zk hy583
   clear hy583
   simp only [Option.some.injEq, Prod.mk.injEq] at H
   obtain ⟨rfl, rfl⟩ := H
   go_enter Try.func137, Try.ntmps137
   go_wp2_with (first | (go_at_call 154; (with_reducible refine (spec_l1In.calls (l0.length : Int) 1 7 false _ A2.out).mono ?_); rintro e w' ⟨rfl, ⟨nd, rfl⟩⟩; (try first | exact ⟨rfl, _, World.drewN_drewN _ _ _⟩ | exact ⟨rfl, _, Eq.trans (World.drewN_drewN _ _ _) (congrArg (World.drewN _) (Nat.add_assoc _ _ _))⟩)) | ((with_reducible refine gate_dst (N := 9) rfl ?_); refine zL 9 3 [] (Below.refl _ _) (Nat.le_refl _) ?_; intro v584 w15 ho16 hb hg_ hnew_; clear hg_ hnew_; (first | rw [← Ny583.out] at ho16 | (simp only [Int.reduceToNat] at ho16; rw [← Ny583.out] at ho16)); have HO585 := zk (Kd.R_lower ho16 (below_size (zB HB))); replace HB := zF HB hb; clear hb ho16))
   repeat (go_quiet (first | (go_at_call 154; (with_reducible refine (spec_l1In.calls (l0.length : Int) 1 7 false _ A2.out).mono ?_); rintro e w' ⟨rfl, ⟨nd, rfl⟩⟩; (try first | exact ⟨rfl, _, World.drewN_drewN _ _ _⟩ | exact ⟨rfl, _, Eq.trans (World.drewN_drewN _ _ _) (congrArg (World.drewN _) (Nat.add_assoc _ _ _))⟩)) | ((with_reducible refine gate_dst (N := 9) rfl ?_); refine zL 9 3 [] (Below.refl _ _) (Nat.le_refl _) ?_; intro v584 w15 ho16 hb hg_ hnew_; clear hg_ hnew_; (first | rw [← Ny583.out] at ho16 | (simp only [Int.reduceToNat] at ho16; rw [← Ny583.out] at ho16)); have HO585 := zk (Kd.R_lower ho16 (below_size (zB HB))); replace HB := zF HB hb; clear hb ho16)); try go_wp2_with (first | (go_at_call 154; (with_reducible refine (spec_l1In.calls (l0.length : Int) 1 7 false _ A2.out).mono ?_); rintro e w' ⟨rfl, ⟨nd, rfl⟩⟩; (try first | exact ⟨rfl, _, World.drewN_drewN _ _ _⟩ | exact ⟨rfl, _, Eq.trans (World.drewN_drewN _ _ _) (congrArg (World.drewN _) (Nat.add_assoc _ _ _))⟩)) | ((with_reducible refine gate_dst (N := 9) rfl ?_); refine zL 9 3 [] (Below.refl _ _) (Nat.le_refl _) ?_; intro v584 w15 ho16 hb hg_ hnew_; clear hg_ hnew_; (first | rw [← Ny583.out] at ho16 | (simp only [Int.reduceToNat] at ho16; rw [← Ny583.out] at ho16)); have HO585 := zk (Kd.R_lower ho16 (below_size (zB HB))); replace HB := zF HB hb; clear hb ho16)))
   go_ret2
   exact ⟨_, by first | rfl | (simp [errW_none, errW_some] <;> rfl) | (simp [*, errW_none, errW_some] <;> rfl), by (with_reducible repeat (first | apply zs | apply zr | apply zt)); exact HO585.out, by repeat (first | exact HB.out | apply za | apply zd | apply ze)⟩
 subst c3
 have H1 : (spec_ShapeOf.l0 k l0 0) = some (r1, r2) := by rw [if_pos rfl] at H; exact H
 clear H
 have H := H1
 clear H1
 have H' := zk H
 clear H
 go_enter Try.func137, Try.ntmps137
 go_wp2_with (first | (go_at_call 154; (with_reducible refine (spec_l1In.calls (l0.length : Int) 1 7 true _ A2.out).mono ?_); rintro e w' ⟨rfl, ⟨nd, rfl⟩⟩; (try first | exact ⟨rfl, _, World.drewN_drewN _ _ _⟩ | exact ⟨rfl, _, Eq.trans (World.drewN_drewN _ _ _) (congrArg (World.drewN _) (Nat.add_assoc _ _ _))⟩)))
 repeat (go_quiet (first | (go_at_call 154; (with_reducible refine (spec_l1In.calls (l0.length : Int) 1 7 true _ A2.out).mono ?_); rintro e w' ⟨rfl, ⟨nd, rfl⟩⟩; (try first | exact ⟨rfl, _, World.drewN_drewN _ _ _⟩ | exact ⟨rfl, _, Eq.trans (World.drewN_drewN _ _ _) (congrArg (World.drewN _) (Nat.add_assoc _ _ _))⟩))); try go_wp2_with (first | (go_at_call 154; (with_reducible refine (spec_l1In.calls (l0.length : Int) 1 7 true _ A2.out).mono ?_); rintro e w' ⟨rfl, ⟨nd, rfl⟩⟩; (try first | exact ⟨rfl, _, World.drewN_drewN _ _ _⟩ | exact ⟨rfl, _, Eq.trans (World.drewN_drewN _ _ _) (congrArg (World.drewN _) (Nat.add_assoc _ _ _))⟩))))
 go_loopg [4] k (fun kq v4 w' => ∃ (x4_1 : Int), v4 = .int .i64 x4_1 ∧ Aside0 (spec_ShapeOf.l0 kq l0 x4_1 = some (r1, r2)) ∧ Aside0 (kq ≤ k) ∧ Aside0 (Below w.heap.size w w'))
 case atStart => exact ⟨(0), (by first | rfl | (simp; done) | (simp [*]; done)), H', ⟨Nat.le_refl _⟩, ⟨by repeat (first | exact HB.out | apply za | apply zd | apply ze)⟩⟩
 case round =>
  clear H'
  try clear c1
  try clear p2
  try clear c3
  obtain ⟨x4_1, rfl, HA, HK1, HB⟩ := hrel
  cases gk with
  | zero => exact absurd HA.out (by simp [spec_ShapeOf.l0])
  | succ k1 =>
   have H := HA.out
   clear HA
   simp only [spec_ShapeOf.l0] at H
   by_cases c4 : x4_1 < (l0.length : Int)
   rotate_left
   · rw [if_neg c4] at H
     have c4b0 := decide_eq_false c4
     clear c4
     replace H := Option.bind_eq_some_iff.mp H
     obtain ⟨t595, A130, H⟩ := H
     try dsimp only at H
     have A13 := zk A130
     clear A130
     simp only [Option.some.injEq, Prod.mk.injEq] at H
     obtain ⟨rfl, rfl⟩ := H
     go_wp2_with (first | (go_at_call 156; (with_reducible refine (spec_l3Shape.calls k1 _ _ l0 t595 _ ?side1 ?side2 A13.out).mono ?_); (case side1 => exact zC (Kd.C_below HR0.out HB.out)); (case side2 => exact HC0.out); rintro e w14 ⟨v596, rfl, ho0, hb⟩; have HO597 := zk (Kd.R_lower ho0 (below_size (zB HB))); replace HB := zF HB hb; (try clear hb ho0)))
     repeat (go_quiet (first | (go_at_call 156; (with_reducible refine (spec_l3Shape.calls k1 _ _ l0 t595 _ ?side1 ?side2 A13.out).mono ?_); (case side1 => exact zC (Kd.C_below HR0.out HB.out)); (case side2 => exact HC0.out); rintro e w14 ⟨v596, rfl, ho0, hb⟩; have HO597 := zk (Kd.R_lower ho0 (below_size (zB HB))); replace HB := zF HB hb; (try clear hb ho0))); try go_wp2_with (first | (go_at_call 156; (with_reducible refine (spec_l3Shape.calls k1 _ _ l0 t595 _ ?side1 ?side2 A13.out).mono ?_); (case side1 => exact zC (Kd.C_below HR0.out HB.out)); (case side2 => exact HC0.out); rintro e w14 ⟨v596, rfl, ho0, hb⟩; have HO597 := zk (Kd.R_lower ho0 (below_size (zB HB))); replace HB := zF HB hb; (try clear hb ho0))))
     go_ret2
     exact ⟨_, by first | rfl | (simp [errW_none, errW_some] <;> rfl) | (simp [*, errW_none, errW_some] <;> rfl), by (with_reducible repeat (first | apply zs | apply zr | apply zt)); exact HO597.out, by repeat (first | exact HB.out | apply za | apply zd | apply ze)⟩
   rw [if_pos c4] at H
   have c4b0 := decide_eq_true c4
   clear c4
   by_cases c5 : 0 ≤ x4_1
   rotate_left
   · rw [if_neg c5] at H
     exact absurd H (by simp)
   rw [if_pos c5] at H
   have c5b0 := eq_true c5
   have c5b1 := decide_eq_true c5
   clear c5
   by_cases c6 : x4_1 ≤ (l0.length : Int)
   rotate_left
   · rw [if_neg c6] at H
     exact absurd H (by simp)
   rw [if_pos c6] at H
   have c6b0 := eq_true c6
   have c6b1 := decide_eq_true c6
   clear c6
   obtain ⟨y586, hy586⟩ : ∃ y_ : List Int, y_ = (l0.take (x4_1 : Int).toNat) := ⟨_, rfl⟩
   rw [← hy586] at H
   try rw [zO y586] at H
   try dsimp only at H
   have Ny586 := zk hy586
   clear hy586
   replace H := Option.bind_eq_some_iff.mp H
   obtain ⟨t591, A70, H⟩ := H
   try dsimp only at H
   have A7 := zk A70
   clear A70
   by_cases c8 : t591 = true
   rotate_left
   · replace c8 := Bool.eq_false_iff.mpr c8
     subst c8
     have H1 : (spec_ShapeOf.l0 k1 l0 (wrap64 (x4_1 + 1))) = some (r1, r2) := by rw [if_neg (show ¬ (false = true) by decide)] at H; exact H
     clear H
     have H := H1
     clear H1
     have H' := zk H
     clear H
     have q12 : (x4_1 : Int) ≤ ((l0.length : Int) : Int) := zo (by assumption)
     obtain ⟨i012, hi012, _, hsz12, _⟩ := info_parts info3
     have hroom12 : l0.length ≤ c0 := HC0.out
     have hC12 : Kd.C (Kd.int .i64) _ A0 l0.length l0 := HR0.out
     have hcut12 := cut_to (P := Try.prog) 22 3 .i64 Try.underlying22 hi012 A0 l0.length c0 x4_1 (zo (by assumption)) q12 hroom12
     have hr12 := Kd.C_take (m := (x4_1 : Int).toNat) hC12 (by omega)
     have hy12 : y586.length = (x4_1 : Int).toNat := (by rw [Ny586.out, List.length_take]; omega)
     rw [← Ny586.out] at hr12
     rw [← hy12] at hcut12
     have HR589 := zk hr12
     have HC589 := zk (show y586.length ≤ c0 from by omega)
     clear hr12 hC12 hroom12 hi012 hsz12
     have KY12 := zk hy12
     clear hy12
     replace q12 := eq_true q12
     have p590 : 0 ≤ (x4_1 : Int) := zo (by assumption)
     have q590 : x4_1 < (l0.length : Int) := zo (by assumption)
     obtain ⟨ad590, e590, hx590_0⟩ := Kd.at_int HR0.out x4_1 p590 q590
     cases e590
     replace hx590_0 := (HB.out.cell (World.block_lt_of_cell? w _ hx590_0)).trans hx590_0
     replace p590 := eq_true p590
     replace q590 := eq_true q590
     go_wp2_with (first | (go_at_call 244; (with_reducible refine (spec_l1Has.calls k1 _ _ y586 (rd l0 x4_1) false _ ?side1 ?side2 A7.out).mono ?_); (case side1 => exact zC (Kd.C_below HR589.out HB.out)); (case side2 => exact HC589.out); rintro e w' ⟨rfl, ⟨nd, rfl⟩⟩; (try first | exact ⟨rfl, _, World.drewN_drewN _ _ _⟩ | exact ⟨rfl, _, Eq.trans (World.drewN_drewN _ _ _) (congrArg (World.drewN _) (Nat.add_assoc _ _ _))⟩)))
     repeat (go_quiet (first | (go_at_call 244; (with_reducible refine (spec_l1Has.calls k1 _ _ y586 (rd l0 x4_1) false _ ?side1 ?side2 A7.out).mono ?_); (case side1 => exact zC (Kd.C_below HR589.out HB.out)); (case side2 => exact HC589.out); rintro e w' ⟨rfl, ⟨nd, rfl⟩⟩; (try first | exact ⟨rfl, _, World.drewN_drewN _ _ _⟩ | exact ⟨rfl, _, Eq.trans (World.drewN_drewN _ _ _) (congrArg (World.drewN _) (Nat.add_assoc _ _ _))⟩))); try go_wp2_with (first | (go_at_call 244; (with_reducible refine (spec_l1Has.calls k1 _ _ y586 (rd l0 x4_1) false _ ?side1 ?side2 A7.out).mono ?_); (case side1 => exact zC (Kd.C_below HR589.out HB.out)); (case side2 => exact HC589.out); rintro e w' ⟨rfl, ⟨nd, rfl⟩⟩; (try first | exact ⟨rfl, _, World.drewN_drewN _ _ _⟩ | exact ⟨rfl, _, Eq.trans (World.drewN_drewN _ _ _) (congrArg (World.drewN _) (Nat.add_assoc _ _ _))⟩))))
     go_roundg k1
     case measure => have := HK1.out; omega
     case rel => exact ⟨(wrap64 (x4_1 + 1)), (by first | rfl | (simp; done) | (simp [*]; done)), H', ⟨by have := HK1.out; omega⟩, ⟨by repeat (first | exact HB.out | apply za | apply zd | apply ze)⟩⟩
   subst c8
   have H1 : (some ((([] : List Int)), false)) = some (r1, r2) := by rw [if_pos rfl] at H; exact H
   clear H
   have H := H1
   clear H1
   obtain ⟨y592, hy592⟩ : ∃ y_ : List Int, y_ = (([] : List Int)) := ⟨_, rfl⟩
   replace H : (some (y592, false)) = some (r1, r2) := by first | (rw [hy592]; with_reducible exact H) | (have H2_ := (Option.bind_some _ _).symm.trans H; rw [hy592]; with_reducible exact H2_) | (have H2_ := (Option.bind_some _ _).symm.trans H; with_reducible exact H2_) | with_reducible exact H | (rw [hy592]; exact H) | exact H
   have Ny592 := zk hy592
   clear hy592
   simp only [Option.some.injEq, Prod.mk.injEq] at H
   obtain ⟨rfl, rfl⟩ := H
   have q9 : (x4_1 : Int) ≤ ((l0.length : Int) : Int) := zo (by assumption)
   obtain ⟨i09, hi09, _, hsz9, _⟩ := info_parts info3
   have hroom9 : l0.length ≤ c0 := HC0.out
   have hC9 : Kd.C (Kd.int .i64) _ A0 l0.length l0 := HR0.out
   have hcut9 := cut_to (P := Try.prog) 22 3 .i64 Try.underlying22 hi09 A0 l0.length c0 x4_1 (zo (by assumption)) q9 hroom9
   have hr9 := Kd.C_take (m := (x4_1 : Int).toNat) hC9 (by omega)
   have hy9 : y586.length = (x4_1 : Int).toNat := (by rw [Ny586.out, List.length_take]; omega)
   rw [← Ny586.out] at hr9
   rw [← hy9] at hcut9
   have HR589 := zk hr9
   have HC589 := zk (show y586.length ≤ c0 from by omega)
   clear hr9 hC9 hroom9 hi09 hsz9
   have KY9 := zk hy9
   clear hy9
   replace q9 := eq_true q9
   have p590 : 0 ≤ (x4_1 : Int) := zo (by assumption)
   have q590 : x4_1 < (l0.length : Int) := zo (by assumption)
   obtain ⟨ad590, e590, hx590_0⟩ := Kd.at_int HR0.out x4_1 p590 q590
   cases e590
   replace hx590_0 := (HB.out.cell (World.block_lt_of_cell? w _ hx590_0)).trans hx590_0
   replace p590 := eq_true p590
   replace q590 := eq_true q590
   go_wp2_with (first | (go_at_call 244; (with_reducible refine (spec_l1Has.calls k1 _ _ y586 (rd l0 x4_1) true _ ?side1 ?side2 A7.out).mono ?_); (case side1 => exact zC (Kd.C_below HR589.out HB.out)); (case side2 => exact HC589.out); rintro e w' ⟨rfl, ⟨nd, rfl⟩⟩; (try first | exact ⟨rfl, _, World.drewN_drewN _ _ _⟩ | exact ⟨rfl, _, Eq.trans (World.drewN_drewN _ _ _) (congrArg (World.drewN _) (Nat.add_assoc _ _ _))⟩)) | ((with_reducible refine gate_dst (N := 24) rfl ?_); refine zL 24 3 [] (Below.refl _ _) (Nat.le_refl _) ?_; intro v593 w10 ho11 hb hg_ hnew_; clear hg_ hnew_; (first | rw [← Ny592.out] at ho11 | (simp only [Int.reduceToNat] at ho11; rw [← Ny592.out] at ho11)); have HO594 := zk (Kd.R_lower ho11 (below_size (zB HB))); replace HB := zF HB hb; clear hb ho11))
   repeat (go_quiet (first | (go_at_call 244; (with_reducible refine (spec_l1Has.calls k1 _ _ y586 (rd l0 x4_1) true _ ?side1 ?side2 A7.out).mono ?_); (case side1 => exact zC (Kd.C_below HR589.out HB.out)); (case side2 => exact HC589.out); rintro e w' ⟨rfl, ⟨nd, rfl⟩⟩; (try first | exact ⟨rfl, _, World.drewN_drewN _ _ _⟩ | exact ⟨rfl, _, Eq.trans (World.drewN_drewN _ _ _) (congrArg (World.drewN _) (Nat.add_assoc _ _ _))⟩)) | ((with_reducible refine gate_dst (N := 24) rfl ?_); refine zL 24 3 [] (Below.refl _ _) (Nat.le_refl _) ?_; intro v593 w10 ho11 hb hg_ hnew_; clear hg_ hnew_; (first | rw [← Ny592.out] at ho11 | (simp only [Int.reduceToNat] at ho11; rw [← Ny592.out] at ho11)); have HO594 := zk (Kd.R_lower ho11 (below_size (zB HB))); replace HB := zF HB hb; clear hb ho11)); try go_wp2_with (first | (go_at_call 244; (with_reducible refine (spec_l1Has.calls k1 _ _ y586 (rd l0 x4_1) true _ ?side1 ?side2 A7.out).mono ?_); (case side1 => exact zC (Kd.C_below HR589.out HB.out)); (case side2 => exact HC589.out); rintro e w' ⟨rfl, ⟨nd, rfl⟩⟩; (try first | exact ⟨rfl, _, World.drewN_drewN _ _ _⟩ | exact ⟨rfl, _, Eq.trans (World.drewN_drewN _ _ _) (congrArg (World.drewN _) (Nat.add_assoc _ _ _))⟩)) | ((with_reducible refine gate_dst (N := 24) rfl ?_); refine zL 24 3 [] (Below.refl _ _) (Nat.le_refl _) ?_; intro v593 w10 ho11 hb hg_ hnew_; clear hg_ hnew_; (first | rw [← Ny592.out] at ho11 | (simp only [Int.reduceToNat] at ho11; rw [← Ny592.out] at ho11)); have HO594 := zk (Kd.R_lower ho11 (below_size (zB HB))); replace HB := zF HB hb; clear hb ho11)))
   go_ret2
   exact ⟨_, by first | rfl | (simp [errW_none, errW_some] <;> rfl) | (simp [*, errW_none, errW_some] <;> rfl), by (with_reducible repeat (first | apply zs | apply zr | apply zt)); exact HO594.out, by repeat (first | exact HB.out | apply za | apply zd | apply ze)⟩

/-! ### spec_DrawPatternsIn: function 138 -/
def spec_DrawPatternsIn.f (k : Nat) (l0 : List Int) : Option (List Int × Int) := (spec_l1Cur_order.f k l0 0 0).bind fun bt599 => ((some (([2, 3, 1, 4, 7, 0, 8] : List Int) : List Int)).bind fun y604 => ((spec_l1Cur_pick.f l0 bt599.2.1 bt599.2.2 24).bind fun bt607 => (if 0 ≤ (wrap64 (5 + (wrap64 (Int.tdiv bt607.1 11)))) then (if (wrap64 (5 + (wrap64 (Int.tdiv bt607.1 11)))) ≤ (y604.length : Int) then ((spec_l1Cur_among.f l0 bt607.2.1 bt607.2.2 (y604.take ((wrap64 (5 + (wrap64 (Int.tdiv bt607.1 11)))) : Int).toNat)).bind fun bt614 => (some (bt599.1, bt614.1))) else (none)) else (none))))
set_option maxHeartbeats 8000000 in
set_option maxRecDepth 100000 in
theorem spec_DrawPatternsIn.calls (k : Nat) (A0 : Option Addr) (c0 : Nat) (l0 : List Int) (r1 : List Int) (r2 : Int) (w : World) (hr0 : Kd.C (Kd.int .u8) w A0 l0.length l0) (hc0 : l0.length ≤ c0) (h : spec_DrawPatternsIn.f k l0 = some (r1, r2)) :
 Calls Try.prog 138 #[.slice A0 l0.length c0] w fun e w' => ∃ v0_ : Value, e = .returned (.tuple #[v0_, .int .i64 r2]) ∧ Kd.R (Kd.int .i64) 3 w' w.heap.size (fun _ => True) v0_ r1 ∧ Below w.heap.size w w' := by
 have hu102 := Try.underlying102
 have HR0 := zk hr0
 have HC0 := zk hc0
 clear hr0 hc0
 have HB := zk (Below.refl w.heap.size w)
 have H := h
 unfold spec_DrawPatternsIn.f at H
 clear h
 replace H := Option.bind_eq_some_iff.mp H
 obtain ⟨⟨t599, t602, t603⟩, A20, H⟩ := H
 try dsimp only at H
 have A2 := zk A20
 clear A20
 obtain ⟨y604, hy604⟩ : ∃ y_ : List Int, y_ = (([2, 3, 1, 4, 7, 0, 8] : List Int)) := ⟨_, rfl⟩
 rw [← hy604] at H
 try rw [zO y604] at H
 try dsimp only at H
 have Ny604 := zk hy604
 clear hy604
 replace H := Option.bind_eq_some_iff.mp H
 obtain ⟨⟨t607, t608, t609⟩, A30, H⟩ := H
 try dsimp only at H
 have A3 := zk A30
 clear A30
 obtain ⟨ji4, hji4⟩ : ∃ j_ : Int, (wrap64 (5 + (wrap64 (Int.tdiv t607 11)))) = j_ := ⟨_, rfl⟩
 replace H : (if 0 ≤ (ji4) then (if (ji4) ≤ (y604.length : Int) then ((spec_l1Cur_among.f l0 t608 t609 (y604.take ((ji4) : Int).toNat)).bind fun bt614 => (some (t599, bt614.1))) else (none)) else (none)) = some (r1, r2) := by first | (rw [hji4] at H; exact H) | (simp only [hji4] at H ⊢; exact H)
 (try rw [hji4] at A2)
 (try rw [hji4] at A3)
 have hji4w : (IntKind.i64.wrap (5 + (wrap64 (Int.tdiv t607 11)))) = ji4 := (i64_w _).trans hji4
 by_cases c5 : 0 ≤ (ji4)
 rotate_left
 · rw [if_neg c5] at H
   exact absurd H (by simp)
 rw [if_pos c5] at H
 have c5b0 := eq_true c5
 have c5b1 := decide_eq_true c5
 clear c5
 by_cases c6 : (ji4) ≤ (y604.length : Int)
 rotate_left
 · rw [if_neg c6] at H
   exact absurd H (by simp)
 rw [if_pos c6] at H
 have c6b0 := eq_true c6
 have c6b1 := decide_eq_true c6
 clear c6
 obtain ⟨y610, hy610⟩ : ∃ y_ : List Int, y_ = (y604.take ((ji4) : Int).toNat) := ⟨_, rfl⟩
 replace H : ((spec_l1Cur_among.f l0 t608 t609 y610).bind fun bt614 => (some (t599, bt614.1))) = some (r1, r2) := by first | (rw [hy610]; with_reducible exact H) | (have H2_ := (Option.bind_some _ _).symm.trans H; rw [hy610]; with_reducible exact H2_) | (have H2_ := (Option.bind_some _ _).symm.trans H; with_reducible exact H2_) | with_reducible exact H | (rw [hy610]; exact H) | exact H
 have Ny610 := zk hy610
 clear hy610
 replace H := Option.bind_eq_some_iff.mp H
 obtain ⟨⟨t614, t615, t616⟩, A70, H⟩ := H
 try dsimp only at H
 have A7 := zk A70
 clear A70
 simp only [Option.some.injEq, Prod.mk.injEq] at H
 obtain ⟨rfl, rfl⟩ := H
 go_enter Try.func138, Try.ntmps138
 go_wp2_with (first | ((with_reducible refine gate_dst (N := 7) rfl ?_); refine box_event ?hg (N := 7) ?hd (cs := #[.slice A0 l0.length c0, .int .i64 0, .int .u64 0]) (t := 102) ?hr ?_; (case hd => rfl); (case hg => rfl); (case hr => first | (go_simp; done) | (go_simp; rfl)); intro gb598 hg w8 hbox hb; have HI598 := zk ((⟨_, _, hbox, (by rw [hg]; exact (below_size (zB HB)) : w.heap.size ≤ gb598), HR0.out⟩ : IsS102 w _ gb598 l0 0 0)); have GW598 := zk ((by rw [hg]; exact (below_size (zB HB)) : w.heap.size ≤ gb598)); have GE598 := zk ((by rw [hg]; exact (below_size (zB HB)) : w.heap.size ≤ gb598)); replace HB := zF HB hb; clear hb hbox hg) | ((with_reducible refine gate_callee (f := 166) rfl ?_); refine zG (some 9) Try.func166 #[.pointer (some ⟨gb598, 0, none⟩)] ?_; (with_reducible refine (spec_l1Cur_order.calls k gb598 l0 0 0 t599 t602 t603 w _ ?side1 ?side2 A2.out).mono ?_); (case side1 => repeat (first | exact HI598.out | apply IsS102.alloc | apply IsS102.drewN | apply IsS102.drew | apply IsS102.set_1 | apply IsS102.set_2)); (case side2 => exact zBs HB (IsS102.ge HI598.out)); rintro e w9 ⟨v600, rfl, ho0, hi, hb, hk⟩; refine ⟨_, rfl, ?_⟩; have HO601 := zk (Kd.R_lower ho0 (below_size (zBs HB (IsS102.ge HI598.out)))); replace HB := zk (hb); replace HI598 := zk (hi); (try clear hb hk hi ho0)) | ((with_reducible refine gate_dst (N := 11) rfl ?_); refine zL 11 3 [2, 3, 1, 4, 7, 0, 8] (Below.refl _ _) (Nat.le_refl _) ?_; intro v605 w10 ho11 hb hg_ hnew_; clear hg_ hnew_; (first | rw [← Ny604.out] at ho11 | (simp only [Int.reduceToNat] at ho11; rw [← Ny604.out] at ho11)); have HO606 := zk (Kd.R_lower (Kd.R_new' ho11 (Kd.R_lt (zR HO601))) (below_size (zBs HB (IsS102.ge HI598.out)))); replace HO601 := zE HO601 ho11 hb; replace HB := zk (below_step (zBs HB (IsS102.ge HI598.out)) hb); replace HI598 := zk (IsS102.below (by repeat (first | exact HI598.out | apply IsS102.alloc | apply IsS102.drewN | apply IsS102.drew | apply IsS102.set_1 | apply IsS102.set_2)) hb); clear hb ho11) | ((with_reducible refine gate_callee (f := 192) rfl ?_); refine zG (some 13) Try.func192 #[.pointer (some ⟨gb598, 0, none⟩), .int .i64 24] ?_; (with_reducible refine (spec_l1Cur_pick.calls gb598 l0 t602 t603 24 t607 t608 t609 w _ ?side1 ?side2 A3.out).mono ?_); (case side1 => repeat (first | exact HI598.out | apply IsS102.alloc | apply IsS102.drewN | apply IsS102.drew | apply IsS102.set_1 | apply IsS102.set_2)); (case side2 => exact zBs HB (IsS102.ge HI598.out)); rintro e w12 ⟨rfl, hi, hb, hk⟩; refine ⟨_, rfl, ?_⟩; replace HO601 := zk (Kd.R_mono (Kd.R_keep (IsS102.apart (show IsS102 w _ gb598 l0 t602 t603 from by repeat (first | exact HI598.out | apply IsS102.alloc | apply IsS102.drewN | apply IsS102.drew | apply IsS102.set_1 | apply IsS102.set_2)) (zR HO601) (by decide)) hk (fun _ h => h.2)) (fun _ h => h.1)); replace HO606 := zk (Kd.R_mono (Kd.R_keep (IsS102.apart (show IsS102 w _ gb598 l0 t602 t603 from by repeat (first | exact HI598.out | apply IsS102.alloc | apply IsS102.drewN | apply IsS102.drew | apply IsS102.set_1 | apply IsS102.set_2)) (zR HO606) (by decide)) hk (fun _ h => h.2)) (fun _ h => h.1)); replace HB := zk (hb); replace HI598 := zk (hi); (try clear hb); (try clear hb2); (try clear hk); (try clear hi); obtain ⟨Ao14, co14, eo14⟩ := Kd.R_slice HO606.out; subst eo14; have q13 : ((ji4) : Int) ≤ ((y604.length : Int) : Int) := zo (by assumption); obtain ⟨i013, hi013, _, hsz13, _⟩ := info_parts info3; have hroom13 : y604.length ≤ co14 := (Kd.R_reads' HO606.out).2.1; have hC13 : Kd.C (Kd.int .i64) _ Ao14 y604.length y604 := (Kd.R_reads' HO606.out).2.2; have hcut13 := cut_to (P := Try.prog) 22 3 .i64 Try.underlying22 hi013 Ao14 y604.length co14 (ji4) (zo (by assumption)) q13 hroom13; have hr13 := Kd.C_take (m := ((ji4) : Int).toNat) hC13 (by omega); have hy13 : y610.length = ((ji4) : Int).toNat := (by rw [Ny610.out, List.length_take]; omega); rw [← Ny610.out] at hr13; rw [← hy13] at hcut13; have HR613 := zk hr13; have HC613 := zk (show y610.length ≤ co14 from by omega); clear hr13 hC13 hroom13 hi013 hsz13; have KY13 := zk hy13; clear hy13; have KL13 := zk (show ((ji4) : Int).toNat ≤ y604.length from by omega); replace q13 := eq_true q13) | ((with_reducible refine gate_callee (f := 195) rfl ?_); refine zG (some 17) Try.func195 #[.pointer (some ⟨gb598, 0, none⟩), .slice Ao14 y610.length co14] ?_; (with_reducible refine (spec_l1Cur_among.calls gb598 l0 t608 t609 _ _ y610 t614 t615 t616 w _ ?side1 ?side2 ?side3 ?side4 ?side5 A7.out).mono ?_); (case side1 => repeat (first | exact HI598.out | apply IsS102.alloc | apply IsS102.drewN | apply IsS102.drew | apply IsS102.set_1 | apply IsS102.set_2)); (case side2 => exact zBs HB (IsS102.ge HI598.out)); (case side3 => exact zC HR613.out); (case side4 => exact HC613.out); (case side5 => exact fun ad_ e_ h_ => far_slice (IsS102.own_ne HI598.out HO606.out (by decide)) ad_ e_ (by have a_ := KY13.out; have b_ := KL13.out; omega)); rintro e w15 ⟨rfl, hi, hb, hk⟩; refine ⟨_, rfl, ?_⟩; replace HO601 := zk (Kd.R_mono (Kd.R_keep (IsS102.apart (show IsS102 w _ gb598 l0 t608 t609 from by repeat (first | exact HI598.out | apply IsS102.alloc | apply IsS102.drewN | apply IsS102.drew | apply IsS102.set_1 | apply IsS102.set_2)) (zR HO601) (by decide)) hk (fun _ h => h.2)) (fun _ h => h.1)); replace HO606 := zk (Kd.R_mono (Kd.R_keep (IsS102.apart (show IsS102 w _ gb598 l0 t608 t609 from by repeat (first | exact HI598.out | apply IsS102.alloc | apply IsS102.drewN | apply IsS102.drew | apply IsS102.set_1 | apply IsS102.set_2)) (zR HO606) (by decide)) hk (fun _ h => h.2)) (fun _ h => h.1)); replace HB := zk (hb); replace HI598 := zk (hi); (try clear hb); (try clear hb2); (try clear hk); (try clear hi)))
 go_ret2
 exact ⟨_, by first | rfl | (simp [errW_none, errW_some] <;> rfl) | (simp only [← hji4]; first | rfl | (simp [errW_none, errW_some] <;> rfl)) | (simp [*, errW_none, errW_some] <;> rfl), by (with_reducible repeat (first | apply zs | apply zr | apply zt)); exact Kd.R_mono HO601.out (fun _ hk => trivial), by repeat (first | (with_reducible first | exact HB.out | apply za | apply zd | apply ze | refine below_set ?_ (IsS102.ge HI598.out)) | exact HB.out)⟩

end Go.Proofs.Ytlkddcabjcejdaa.MFnContained
