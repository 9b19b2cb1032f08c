/- Functions that FnAvoiding comes to, a walk for each: by wip/tools/mk.py and post.py. No condition. -/
import Derived.Test.YtlkddcabjcejdaaMFnAvoidingx0
import Derived.Test.YtlkddcabjcejdaaMFnAvoidingx1
import Derived.Test.YtlkddcabjcejdaaMFnAvoidingx2
import Derived.Test.YtlkddcabjcejdaaMFnAvoidingx3
import Derived.Test.YtlkddcabjcejdaaMFnAvoidingx6
import Derived.Test.YtlkddcabjcejdaaMFnAvoidingx7
import Derived.Test.YtlkddcabjcejdaaMFnAvoidingx9
namespace Go.Proofs.Ytlkddcabjcejdaa.MFnAvoiding
open Go.RowKit Go.Proofs.YtlkddcabjcejdaaW.PrintWords Go.Proofs.YtlkddcabjcejdaaW.PrintLast Go.Proofs.YtlkddcabjcejdaaW.PrintMore
attribute [local go_sem] max2_int min2_int max_two min_two max_three min_three max_four min_four
set_option linter.unusedVariables false
set_option linter.unusedSimpArgs false

/-! ### spec_l2Before: function 227 -/
def spec_l2Before.l0 : Nat → List Int → List Int → Int → Option (Bool)
 | 0, _, _, _ => none
 | k + 1, x0, x1, x5 => if x5 < (x0.length : Int) then (if 0 ≤ x5 then (if x5 < (x1.length : Int) then (if (rd x0 x5) = (rd x1 x5) then (spec_l2Before.l0 k x0 x1 (wrap64 (x5 + 1))) else (some (decide ((rd x0 x5) < (rd x1 x5))))) else (none)) else (none)) else (some false)
def spec_l2Before.f (k : Nat) (l0 : List Int) (l1 : List Int) : Option (Bool) := spec_l2Before.l0 k l0 l1 0
set_option maxHeartbeats 8000000 in
set_option maxRecDepth 100000 in
theorem spec_l2Before.calls (k : Nat) (A0 : Option Addr) (c0 : Nat) (l0 : List Int) (A1 : Option Addr) (c1 : Nat) (l1 : List Int) (r : Bool) (w : World) (hr0 : Kd.C (Kd.int .i64) w A0 l0.length l0) (hc0 : l0.length ≤ c0) (hr1 : Kd.C (Kd.int .i64) w A1 l1.length l1) (hc1 : l1.length ≤ c1) (h : spec_l2Before.f k l0 l1 = some r) :
 Calls Try.prog 227 #[.slice A0 l0.length c0, .slice A1 l1.length c1] w fun e w' => e = .returned (.bool r) ∧ Drawn0 w w' := by
 have HR0 := zk hr0
 have HC0 := zk hc0
 clear hr0 hc0
 have HR1 := zk hr1
 have HC1 := zk hc1
 clear hr1 hc1
 have H : (spec_l2Before.l0 k l0 l1 0) = some r := h
 clear h
 have H' := zk H
 clear H
 go_enter Try.func227, Try.ntmps227
 go_wp2
 repeat (go_quiet (fail); try go_wp2)
 go_loopg [5] k (fun kq v5 w' => ∃ (x5_1 : Int), v5 = .int .i64 x5_1 ∧ Aside0 (spec_l2Before.l0 kq l0 l1 x5_1 = some r) ∧ Aside0 (kq ≤ k) ∧ Drawn0 w w')
 case atStart => exact ⟨(0), (by first | rfl | (simp; done) | (simp [*]; done)), H', ⟨Nat.le_refl _⟩, zD⟩
 case round =>
  clear H'
  try clear c1
  try clear c2
  try clear p2
  obtain ⟨x5_1, rfl, HA, HK1, ⟨m1, rfl⟩⟩ := hrel
  cases gk with
  | zero => exact absurd HA.out (by simp [spec_l2Before.l0])
  | succ k1 =>
   have H := HA.out
   clear HA
   simp only [spec_l2Before.l0] at H
   by_cases c3 : x5_1 < (l0.length : Int)
   rotate_left
   · rw [if_neg c3] at H
     have c3b0 := decide_eq_false c3
     clear c3
     obtain rfl := Option.some.inj H
     go_wp2
     repeat (go_quiet (fail); try go_wp2)
     go_ret
     exact ⟨zX, zD⟩
   rw [if_pos c3] at H
   have c3b0 := decide_eq_true c3
   clear c3
   by_cases c4 : 0 ≤ x5_1
   rotate_left
   · rw [if_neg c4] at H
     exact absurd H (by simp)
   rw [if_pos c4] at H
   have c4b0 := decide_eq_true c4
   clear c4
   by_cases c5 : x5_1 < (l1.length : Int)
   rotate_left
   · rw [if_neg c5] at H
     exact absurd H (by simp)
   rw [if_pos c5] at H
   have c5b0 := decide_eq_true c5
   clear c5
   by_cases c6 : (rd l0 x5_1) = (rd l1 x5_1)
   rotate_left
   · rw [if_neg c6] at H
     have c6b0 : ((rd l0 x5_1) == (rd l1 x5_1)) = false := beq_eq_false_iff_ne.mpr c6
     have c6b1 : ((rd l0 x5_1) != (rd l1 x5_1)) = true := bne_iff_ne.mpr c6
     obtain rfl := Option.some.inj H
     have p427 : 0 ≤ (x5_1 : Int) := zo (by assumption)
     have q427 : x5_1 < (l0.length : Int) := zo (by assumption)
     obtain ⟨ad427, e427, hx427_0⟩ := Kd.at_int HR0.out x5_1 p427 q427
     cases e427
     replace p427 := eq_true p427
     replace q427 := eq_true q427
     have p428 : 0 ≤ (x5_1 : Int) := zo (by assumption)
     have q428 : x5_1 < (l1.length : Int) := zo (by assumption)
     obtain ⟨ad428, e428, hx428_0⟩ := Kd.at_int HR1.out x5_1 p428 q428
     cases e428
     replace p428 := eq_true p428
     replace q428 := eq_true q428
     have p429 : 0 ≤ (x5_1 : Int) := zo (by assumption)
     have q429 : x5_1 < (l0.length : Int) := zo (by assumption)
     obtain ⟨ad429, e429, hx429_0⟩ := Kd.at_int HR0.out x5_1 p429 q429
     obtain rfl : ad427 = ad429 := (by injection e429)
     replace p429 := eq_true p429
     replace q429 := eq_true q429
     have p430 : 0 ≤ (x5_1 : Int) := zo (by assumption)
     have q430 : x5_1 < (l1.length : Int) := zo (by assumption)
     obtain ⟨ad430, e430, hx430_0⟩ := Kd.at_int HR1.out x5_1 p430 q430
     obtain rfl : ad428 = ad430 := (by injection e430)
     replace p430 := eq_true p430
     replace q430 := eq_true q430
     go_wp2
     repeat (go_quiet (fail); try go_wp2)
     go_ret
     exact ⟨zX, zD⟩
   rw [if_pos c6] at H
   have c6b0 : ((rd l0 x5_1) == (rd l1 x5_1)) = true := beq_iff_eq.mpr c6
   have c6b1 : ((rd l0 x5_1) != (rd l1 x5_1)) = false := bne_eq_false_iff_eq.mpr c6
   clear c6
   have H' := zk H
   clear H
   have p427 : 0 ≤ (x5_1 : Int) := zo (by assumption)
   have q427 : x5_1 < (l0.length : Int) := zo (by assumption)
   obtain ⟨ad427, e427, hx427_0⟩ := Kd.at_int HR0.out x5_1 p427 q427
   cases e427
   replace p427 := eq_true p427
   replace q427 := eq_true q427
   have p428 : 0 ≤ (x5_1 : Int) := zo (by assumption)
   have q428 : x5_1 < (l1.length : Int) := zo (by assumption)
   obtain ⟨ad428, e428, hx428_0⟩ := Kd.at_int HR1.out x5_1 p428 q428
   cases e428
   replace p428 := eq_true p428
   replace q428 := eq_true q428
   go_wp2
   repeat (go_quiet (fail); try go_wp2)
   go_roundg k1
   case measure => have := HK1.out; omega
   case rel => exact ⟨(wrap64 (x5_1 + 1)), (by first | rfl | (simp; done) | (simp [*]; done)), H', ⟨by have := HK1.out; omega⟩, zD⟩

/-! ### spec_FirstAvoiding: function 112 -/
mutual
def spec_FirstAvoiding.j0 : Nat → Int → List (List Int) → Bool → Option (List Int × Bool)
 | 0, _, _, _ => none
 | k + 1, x0, x1, x16 => if x16 = true then (some ((([] : List Int)), false)) else ((spec_l3Avoiding.f k x0 x1).bind fun t436 => (if (t436.length : Int) = 0 then (some ((([] : List Int)), false)) else (if 0 < (t436.length : Int) then (spec_FirstAvoiding.l0 k t436 (rd_L2 t436 0) 1) else (none))))
def spec_FirstAvoiding.l0 : Nat → List (List Int) → List Int → Int → Option (List Int × Bool)
 | 0, _, _, _ => none
 | k + 1, x6, x7, x8 => if x8 < (x6.length : Int) then (if 0 ≤ x8 then ((spec_l2Before.f k (rd_L2 x6 x8) x7).bind fun t444 => (if t444 = true then (spec_FirstAvoiding.l0 k x6 (rd_L2 x6 x8) (wrap64 (x8 + 1))) else (spec_FirstAvoiding.l0 k x6 x7 (wrap64 (x8 + 1))))) else (none)) else (some (x7, true))
end
def spec_FirstAvoiding.f (k : Nat) (a0 : Int) (l1 : List (List Int)) : Option (List Int × Bool) := (spec_l3Size.f a0).bind fun t431 => (if t431 = true then ((spec_l3Patterns.f k l1).bind fun t432 => (spec_FirstAvoiding.j0 k a0 l1 (!t432))) else (spec_FirstAvoiding.j0 k a0 l1 true))
set_option maxHeartbeats 8000000 in
set_option maxRecDepth 100000 in
theorem spec_FirstAvoiding.calls (k : Nat) (a0 : Int) (A1 : Option Addr) (c1 : Nat) (l1 : List (List Int)) (r1 : List Int) (r2 : Bool) (w : World) (hr1 : Kd.C (Kd.slice 3 (Kd.int .i64)) w A1 l1.length l1) (hc1 : l1.length ≤ c1) (h : spec_FirstAvoiding.f k a0 l1 = some (r1, r2)) :
 Calls Try.prog 112 #[.int .i64 a0, .slice A1 l1.length c1] w fun e w' => ∃ v0_ : Value, e = .returned (.tuple #[v0_, .bool r2]) ∧ Kd.V (Kd.int .i64) 3 w' w.heap.size (fun k_ => (w.heap.size ≤ k_)) v0_ r1 ∧ Below w.heap.size w w' := by
 have HR1 := zk hr1
 have HC1 := zk hc1
 clear hr1 hc1
 have HB := zk (Below.refl w.heap.size w)
 have H := h
 unfold spec_FirstAvoiding.f at H
 clear h
 have HC3 := zk H
 clear H
 go_enter Try.func112, Try.ntmps112
 go_upto_region 1 with (fail)
 go_cut [16] (fun v16 wc => ∃ (kq : Nat) (x16_2 : Bool), v16 = .bool x16_2 ∧ Aside0 (spec_FirstAvoiding.j0 kq a0 l1 x16_2 = some (r1, r2)) ∧ Aside0 (kq ≤ k) ∧ Aside0 (Below w.heap.size w wc))
 case first =>
  have H := HC3.out
  clear HC3
  replace H := Option.bind_eq_some_iff.mp H
  obtain ⟨t431, A40, H⟩ := H
  try dsimp only at H
  have A4 := zk A40
  clear A40
  by_cases c5 : t431 = true
  rotate_left
  · replace c5 := Bool.eq_false_iff.mpr c5
    subst c5
    have H1 : (spec_FirstAvoiding.j0 k a0 l1 true) = some (r1, r2) := by rw [if_neg (show ¬ (false = true) by decide)] at H; exact H
    clear H
    have H := H1
    clear H1
    have H' := zk H
    clear H
    go_wp2_with (first | ((with_reducible refine gate_callee (f := 224) rfl ?_); refine zG (some 10) Try.func224 #[.int .i64 a0] ?_; (with_reducible refine (spec_l3Size.calls a0 false _ A4.out).mono ?_); rintro e w' ⟨rfl, ⟨nd, rfl⟩⟩; refine ⟨_, rfl, ?_⟩))
    go_meet
    case rel => exact ⟨_, (true), (by first | rfl | (simp; done) | (simp [*]; done)), H', ⟨by first | omega | exact Nat.le_refl _⟩, ⟨by repeat (first | exact HB.out | apply za | apply zd | apply ze)⟩⟩
  subst c5
  have H1 : ((spec_l3Patterns.f k l1).bind fun t432 => (spec_FirstAvoiding.j0 k a0 l1 (!t432))) = some (r1, r2) := by rw [if_pos rfl] at H; exact H
  clear H
  have H := H1
  clear H1
  replace H := Option.bind_eq_some_iff.mp H
  obtain ⟨t432, A60, H⟩ := H
  try dsimp only at H
  have A6 := zk A60
  clear A60
  have H' := zk H
  clear H
  go_wp2_with (first | ((with_reducible refine gate_callee (f := 224) rfl ?_); refine zG (some 10) Try.func224 #[.int .i64 a0] ?_; (with_reducible refine (spec_l3Size.calls a0 true _ A4.out).mono ?_); rintro e w' ⟨rfl, ⟨nd, rfl⟩⟩; refine ⟨_, rfl, ?_⟩) | (go_at_call 225; (with_reducible refine (spec_l3Patterns.calls k _ _ l1 t432 _ ?side1 ?side2 A6.out).mono ?_); (case side1 => exact zC (Kd.C_below HR1.out (zB HB))); (case side2 => exact HC1.out); rintro e w' ⟨rfl, ⟨nd, rfl⟩⟩))
  go_meet
  case rel => exact ⟨_, (!t432), (by first | rfl | (simp; done) | (simp [*]; done)), H', ⟨by first | omega | exact Nat.le_refl _⟩, ⟨by repeat (first | exact HB.out | apply za | apply zd | apply ze)⟩⟩
 case rest =>
  clear HC3
  try clear c1
  try clear c2
  try clear p2
  try clear c5
  obtain ⟨kq, x16_2, rfl, HA, HJ2, HB⟩ := hcut
  cases kq with
  | zero => exact absurd HA.out (by simp [spec_FirstAvoiding.j0])
  | succ kj2 =>
   have H := HA.out
   clear HA
   simp only [spec_FirstAvoiding.j0] at H
   by_cases c7 : x16_2 = true
   rotate_left
   · replace c7 := Bool.eq_false_iff.mpr c7
     subst c7
     have H1 : ((spec_l3Avoiding.f kj2 a0 l1).bind fun t436 => (if (t436.length : Int) = 0 then (some ((([] : List Int)), false)) else (if 0 < (t436.length : Int) then (spec_FirstAvoiding.l0 kj2 t436 (rd_L2 t436 0) 1) else (none)))) = some (r1, r2) := by rw [if_neg (show ¬ (false = true) by decide)] at H; exact H
     clear H
     have H := H1
     clear H1
     replace H := Option.bind_eq_some_iff.mp H
     obtain ⟨t436, A100, H⟩ := H
     try dsimp only at H
     have A10 := zk A100
     clear A100
     by_cases c11 : (t436.length : Int) = 0
     rotate_left
     · rw [if_neg c11] at H
       have c11b0 : ((t436.length : Int) == 0) = false := beq_eq_false_iff_ne.mpr c11
       have c11b1 : ((t436.length : Int) != 0) = true := bne_iff_ne.mpr c11
       have c11b2 : ¬ (t436 = []) := fun h_ => c11 (by rw [h_]; rfl)
       by_cases c16 : 0 < (t436.length : Int)
       rotate_left
       · rw [if_neg c16] at H
         exact absurd H (by simp)
       rw [if_pos c16] at H
       have c16b0 := decide_eq_true c16
       have c16b1 : decide (0 < t436.length) = true := decide_eq_true (by omega)
       have c16b9 : (0 < t436.length) := by omega
       clear c16
       have H' := zk H
       clear H
       go_wp2_with (first | ((with_reducible refine gate_callee (f := 226) rfl ?_); refine zG (some 20) Try.func226 #[.int .i64 a0, .slice A1 l1.length c1] ?_; (with_reducible refine (spec_l3Avoiding.calls kj2 a0 _ _ l1 t436 _ ?side1 ?side2 A10.out).mono ?_); (case side1 => exact zC (Kd.C_below HR1.out HB.out)); (case side2 => exact HC1.out); rintro e w17 ⟨v437, rfl, ho0, hb⟩; refine ⟨_, rfl, ?_⟩; have HO438 := zk (Kd.N_lower (Kd.N_mono (ok' := fun k_ => (w.heap.size ≤ k_)) ho0 (fun k_ hk_ => (Nat.le_trans (below_size (zB HB)) hk_))) (below_size (zB HB))); replace HB := zF HB hb; (try clear hb ho0); obtain ⟨Ao18, co18, eo18⟩ := Kd.N_slice HO438.out; subst eo18; have p442 : 0 ≤ (0 : Int) := (by omega); have q442 : 0 < (t436.length : Int) := zo (by assumption); obtain ⟨ad442, A442_0, c442_0, e442, hx442_0, hl442_0, hi442_0⟩ := at_L2 (Kd.N_reads' HO438.out).2.2 0 p442 q442; cases e442; obtain ⟨ce442, hce442, hMe442, hcc442⟩ := Kd.N_get HO438.out [] 0 p442 (by first | exact q442 | exact zo (by assumption) | (have e_ := (Kd.N_reads' HO438.out).1; omega)); obtain ⟨ua442_0, uc442_0, rfl, ul442_0, ge442_0⟩ := Kd.FK_slice_open hMe442; have hv442_0 := hcc442 0 _ rfl; rw [Nat.add_zero, show ((Kd.slice 3 (Kd.int .i64))).sz = 1 from rfl, Nat.mul_one] at hv442_0; replace hv442_0 := Option.some.inj (hv442_0.symm.trans hx442_0); injection hv442_0 with hva_ hvn_ hvc_; rw [hva_] at ge442_0; rw [hvc_] at ul442_0; have HL442_0 := zk (show Kd.V (Kd.int .i64) 3 _ w.heap.size _ _ (rd_L2 t436 0) from Kd.V_mk ul442_0 ge442_0); clear hva_ hvn_ hvc_ ge442_0 ul442_0; clear hcc442 hce442; have qi442 : (0 < t436.length) = True := eq_true (by omega); (try rw [show ((0 : Int)).toNat = 0 from rfl] at hx442_0); (try rw [Addr.add_zero'] at hx442_0); have HR442_0 := zk hi442_0; have HC442_0 := zk hl442_0; clear hi442_0 hl442_0; replace p442 := eq_true p442; replace q442 := eq_true q442))
       go_loopg [7, 8] kj2 (fun kq v7 v8 w' => ∃ (x7_2 : List Int) (x8_2 : Int), v8 = .int .i64 x8_2 ∧ Aside0 (spec_FirstAvoiding.l0 kq t436 x7_2 x8_2 = some (r1, r2)) ∧ Aside0 (kq ≤ kj2) ∧ Aside0 (Kd.N (Kd.slice 3 (Kd.int .i64)) 22 w' w.heap.size (fun k_ => (w.heap.size ≤ k_)) (.slice (some ad442) t436.length co18) t436) ∧ Aside0 (Kd.V (Kd.int .i64) 3 w' w.heap.size (fun k_ => (w.heap.size ≤ k_) ∧ some k_ ≠ ((.slice (some ad442) t436.length co18) : Value).ownBlock) v7 x7_2) ∧ Aside0 (Kd.C (Kd.int .i64) w' A442_0 (rd_L2 t436 0).length (rd_L2 t436 0)) ∧ Aside0 (Below w.heap.size w w'))
       case atStart => exact ⟨(rd_L2 t436 0), (1), (by first | rfl | (simp; done) | (simp [*]; done)), H', ⟨Nat.le_refl _⟩, ⟨by (with_reducible repeat (first | apply Kd.N_alloc | apply Kd.N_drewN | apply Kd.N_drew)); exact HO438.out⟩, ⟨by (with_reducible repeat (first | apply Kd.V_alloc | apply Kd.V_drewN | apply Kd.V_drew)); exact HL442_0.out⟩, ⟨by repeat (first | (with_reducible exact HR442_0.out) | (with_reducible refine zv ?_ _) | (with_reducible refine zu ?_ _) | (with_reducible refine zw ?_) | exact HR442_0.out)⟩, ⟨by repeat (first | exact HB.out | apply za | apply zd | apply ze)⟩⟩
       case round =>
        clear H'
        try clear c1
        try clear c2
        try clear p2
        try clear c4
        try clear p4
        try clear q4
        try clear hx4
        try clear qi4
        try clear c5
        try clear c7
        try clear c11
        try clear c11b0
        try clear c11b1
        try clear c11b2
        try clear c16
        try clear c16b0
        try clear c16b1
        try clear hx442_0
        try clear p2
        try clear p442
        try clear q442
        obtain ⟨x7_2, x8_2, rfl, HA, HK2, HO_6, HO_7, HR442_0, HB⟩ := hrel
        cases gk with
        | zero => exact absurd HA.out (by simp [spec_FirstAvoiding.l0])
        | succ k2 =>
         have H := HA.out
         clear HA
         simp only [spec_FirstAvoiding.l0] at H
         by_cases c19 : x8_2 < (t436.length : Int)
         rotate_left
         · rw [if_neg c19] at H
           have c19b0 := decide_eq_false c19
           clear c19
           simp only [Option.some.injEq, Prod.mk.injEq] at H
           obtain ⟨rfl, rfl⟩ := H
           go_wp2
           go_ret2
           exact ⟨_, by first | rfl | (simp [errW_none, errW_some] <;> rfl) | (simp [*, errW_none, errW_some] <;> rfl), by (with_reducible repeat (first | apply Kd.V_alloc | apply Kd.V_drewN | apply Kd.V_drew)); exact Kd.V_mono HO_7.out (fun _ hk => hk.1), by repeat (first | exact HB.out | apply za | apply zd | apply ze)⟩
         rw [if_pos c19] at H
         have c19b0 := decide_eq_true c19
         clear c19
         by_cases c20 : 0 ≤ x8_2
         rotate_left
         · rw [if_neg c20] at H
           exact absurd H (by simp)
         rw [if_pos c20] at H
         have c20b0 := decide_eq_true c20
         clear c20
         replace H := Option.bind_eq_some_iff.mp H
         obtain ⟨t444, A210, H⟩ := H
         try dsimp only at H
         have A21 := zk A210
         clear A210
         by_cases c22 : t444 = true
         rotate_left
         · replace c22 := Bool.eq_false_iff.mpr c22
           subst c22
           have H1 : (spec_FirstAvoiding.l0 k2 t436 x7_2 (wrap64 (x8_2 + 1))) = some (r1, r2) := by rw [if_neg (show ¬ (false = true) by decide)] at H; exact H
           clear H
           have H := H1
           clear H1
           have H' := zk H
           clear H
           have p443 : 0 ≤ (x8_2 : Int) := zo (by assumption)
           have q443 : x8_2 < (t436.length : Int) := zo (by assumption)
           obtain ⟨ad443, A443_0, c443_0, e443, hx443_0, hl443_0, hi443_0⟩ := at_L2 (Kd.N_reads' HO_6.out).2.2 x8_2 p443 q443
           obtain rfl : ad442 = ad443 := (by injection e443)
           obtain ⟨ce443, hce443, hMe443, hcc443⟩ := Kd.N_get HO_6.out [] x8_2 p443 (by first | exact q443 | exact zo (by assumption) | (have e_ := (Kd.N_reads' HO_6.out).1; omega))
           obtain ⟨ua443_0, uc443_0, rfl, ul443_0, ge443_0⟩ := Kd.FK_slice_open hMe443
           have hv443_0 := hcc443 0 _ rfl
           rw [Nat.add_zero, show ((Kd.slice 3 (Kd.int .i64))).sz = 1 from rfl, Nat.mul_one] at hv443_0
           replace hv443_0 := Option.some.inj (hv443_0.symm.trans hx443_0)
           injection hv443_0 with hva_ hvn_ hvc_
           rw [hva_] at ge443_0
           rw [hvc_] at ul443_0
           have HL443_0 := zk (show Kd.V (Kd.int .i64) 3 _ w.heap.size _ _ (rd_L2 t436 x8_2) from Kd.V_mk ul443_0 ge443_0)
           clear hva_ hvn_ hvc_ ge443_0 ul443_0
           clear hcc443 hce443
           have HR443_0 := zk hi443_0
           have HC443_0 := zk hl443_0
           clear hi443_0 hl443_0
           replace p443 := eq_true p443
           replace q443 := eq_true q443
           obtain ⟨Ao24, co24, eo24⟩ := Kd.V_slice HO_7.out
           subst eo24
           go_wp2_with (first | ((with_reducible refine gate_callee (f := 227) rfl ?_); refine zG (some 39) Try.func227 #[.slice A443_0 (rd_L2 t436 x8_2).length c443_0, .slice Ao24 x7_2.length co24] ?_; (with_reducible refine (spec_l2Before.calls k2 _ _ (rd_L2 t436 x8_2) _ _ x7_2 false _ ?side1 ?side2 ?side3 ?side4 A21.out).mono ?_); (case side1 => exact zC HR443_0.out); (case side2 => exact HC443_0.out); (case side3 => exact zC (Kd.V_reads' HO_7.out).2.2); (case side4 => exact (Kd.V_reads' HO_7.out).2.1); rintro e w' ⟨rfl, ⟨nd, rfl⟩⟩; refine ⟨_, rfl, ?_⟩))
           go_roundg k2
           case measure => have := HJ2.out; have := HK2.out; omega
           case rel => exact ⟨(x7_2), (wrap64 (x8_2 + 1)), (by first | rfl | (simp; done) | (simp [*]; done)), H', ⟨by have := HJ2.out; have := HK2.out; omega⟩, ⟨by (with_reducible repeat (first | apply Kd.N_alloc | apply Kd.N_drewN | apply Kd.N_drew)); exact HO_6.out⟩, ⟨by (with_reducible repeat (first | apply Kd.V_alloc | apply Kd.V_drewN | apply Kd.V_drew)); exact HO_7.out⟩, ⟨by repeat (first | (with_reducible exact HR442_0.out) | (with_reducible refine zv ?_ _) | (with_reducible refine zu ?_ _) | (with_reducible refine zw ?_) | exact HR442_0.out)⟩, ⟨by repeat (first | exact HB.out | apply za | apply zd | apply ze)⟩⟩
         subst c22
         have H1 : (spec_FirstAvoiding.l0 k2 t436 (rd_L2 t436 x8_2) (wrap64 (x8_2 + 1))) = some (r1, r2) := by rw [if_pos rfl] at H; exact H
         clear H
         have H := H1
         clear H1
         have H' := zk H
         clear H
         have p443 : 0 ≤ (x8_2 : Int) := zo (by assumption)
         have q443 : x8_2 < (t436.length : Int) := zo (by assumption)
         obtain ⟨ad443, A443_0, c443_0, e443, hx443_0, hl443_0, hi443_0⟩ := at_L2 (Kd.N_reads' HO_6.out).2.2 x8_2 p443 q443
         obtain rfl : ad442 = ad443 := (by injection e443)
         obtain ⟨ce443, hce443, hMe443, hcc443⟩ := Kd.N_get HO_6.out [] x8_2 p443 (by first | exact q443 | exact zo (by assumption) | (have e_ := (Kd.N_reads' HO_6.out).1; omega))
         obtain ⟨ua443_0, uc443_0, rfl, ul443_0, ge443_0⟩ := Kd.FK_slice_open hMe443
         have hv443_0 := hcc443 0 _ rfl
         rw [Nat.add_zero, show ((Kd.slice 3 (Kd.int .i64))).sz = 1 from rfl, Nat.mul_one] at hv443_0
         replace hv443_0 := Option.some.inj (hv443_0.symm.trans hx443_0)
         injection hv443_0 with hva_ hvn_ hvc_
         rw [hva_] at ge443_0
         rw [hvc_] at ul443_0
         have HL443_0 := zk (show Kd.V (Kd.int .i64) 3 _ w.heap.size _ _ (rd_L2 t436 x8_2) from Kd.V_mk ul443_0 ge443_0)
         clear hva_ hvn_ hvc_ ge443_0 ul443_0
         clear hcc443 hce443
         have HR443_0 := zk hi443_0
         have HC443_0 := zk hl443_0
         clear hi443_0 hl443_0
         replace p443 := eq_true p443
         replace q443 := eq_true q443
         obtain ⟨Ao23, co23, eo23⟩ := Kd.V_slice HO_7.out
         subst eo23
         go_wp2_with (first | ((with_reducible refine gate_callee (f := 227) rfl ?_); refine zG (some 39) Try.func227 #[.slice A443_0 (rd_L2 t436 x8_2).length c443_0, .slice Ao23 x7_2.length co23] ?_; (with_reducible refine (spec_l2Before.calls k2 _ _ (rd_L2 t436 x8_2) _ _ x7_2 true _ ?side1 ?side2 ?side3 ?side4 A21.out).mono ?_); (case side1 => exact zC HR443_0.out); (case side2 => exact HC443_0.out); (case side3 => exact zC (Kd.V_reads' HO_7.out).2.2); (case side4 => exact (Kd.V_reads' HO_7.out).2.1); rintro e w' ⟨rfl, ⟨nd, rfl⟩⟩; refine ⟨_, rfl, ?_⟩; have p445 : 0 ≤ (x8_2 : Int) := zo (by assumption); have q445 : x8_2 < (t436.length : Int) := zo (by assumption); obtain ⟨ad445, A445_0, c445_0, e445, hx445_0, hl445_0, hi445_0⟩ := at_L2 (Kd.N_reads' HO_6.out).2.2 x8_2 p445 q445; obtain rfl : ad442 = ad445 := (by injection e445); obtain ⟨ce445, hce445, hMe445, hcc445⟩ := Kd.N_get HO_6.out [] x8_2 p445 (by first | exact q445 | exact zo (by assumption) | (have e_ := (Kd.N_reads' HO_6.out).1; omega)); obtain ⟨ua445_0, uc445_0, rfl, ul445_0, ge445_0⟩ := Kd.FK_slice_open hMe445; have hv445_0 := hcc445 0 _ rfl; rw [Nat.add_zero, show ((Kd.slice 3 (Kd.int .i64))).sz = 1 from rfl, Nat.mul_one] at hv445_0; replace hv445_0 := Option.some.inj (hv445_0.symm.trans hx445_0); injection hv445_0 with hva_ hvn_ hvc_; rw [hva_] at ge445_0; rw [hvc_] at ul445_0; have HL445_0 := zk (show Kd.V (Kd.int .i64) 3 _ w.heap.size _ _ (rd_L2 t436 x8_2) from Kd.V_mk ul445_0 ge445_0); clear hva_ hvn_ hvc_ ge445_0 ul445_0; clear hcc445 hce445; have HR445_0 := zk hi445_0; have HC445_0 := zk hl445_0; clear hi445_0 hl445_0; replace p445 := eq_true p445; replace q445 := eq_true q445; have ea_ := Option.some.inj (hx443_0.symm.trans hx445_0); injection ea_ with ea_ en_ ec_; subst ea_; subst ec_; clear en_))
         go_roundg k2
         case measure => have := HJ2.out; have := HK2.out; omega
         case rel => exact ⟨(rd_L2 t436 x8_2), (wrap64 (x8_2 + 1)), (by first | rfl | (simp; done) | (simp [*]; done)), H', ⟨by have := HJ2.out; have := HK2.out; omega⟩, ⟨by (with_reducible repeat (first | apply Kd.N_alloc | apply Kd.N_drewN | apply Kd.N_drew)); exact HO_6.out⟩, ⟨by (with_reducible repeat (first | apply Kd.V_alloc | apply Kd.V_drewN | apply Kd.V_drew)); exact HL445_0.out⟩, ⟨by repeat (first | (with_reducible exact HR442_0.out) | (with_reducible refine zv ?_ _) | (with_reducible refine zu ?_ _) | (with_reducible refine zw ?_) | exact HR442_0.out)⟩, ⟨by repeat (first | exact HB.out | apply za | apply zd | apply ze)⟩⟩
     rw [if_pos c11] at H
     have c11b0 : ((t436.length : Int) == 0) = true := beq_iff_eq.mpr c11
     have c11b1 : ((t436.length : Int) != 0) = false := bne_eq_false_iff_eq.mpr c11
     clear c11
     obtain ⟨y439, hy439⟩ : ∃ y_ : List Int, y_ = (([] : List Int)) := ⟨_, rfl⟩
     replace H : (some (y439, false)) = some (r1, r2) := by first | (rw [hy439]; with_reducible exact H) | (have H2_ := (Option.bind_some _ _).symm.trans H; rw [hy439]; with_reducible exact H2_) | (have H2_ := (Option.bind_some _ _).symm.trans H; with_reducible exact H2_) | with_reducible exact H | (rw [hy439]; exact H) | exact H
     have Ny439 := zk hy439
     clear hy439
     simp only [Option.some.injEq, Prod.mk.injEq] at H
     obtain ⟨rfl, rfl⟩ := H
     go_wp2_with (first | ((with_reducible refine gate_callee (f := 226) rfl ?_); refine zG (some 20) Try.func226 #[.int .i64 a0, .slice A1 l1.length c1] ?_; (with_reducible refine (spec_l3Avoiding.calls kj2 a0 _ _ l1 t436 _ ?side1 ?side2 A10.out).mono ?_); (case side1 => exact zC (Kd.C_below HR1.out HB.out)); (case side2 => exact HC1.out); rintro e w12 ⟨v437, rfl, ho0, hb⟩; refine ⟨_, rfl, ?_⟩; have HO438 := zk (Kd.N_lower (Kd.N_mono (ok' := fun k_ => (w.heap.size ≤ k_)) ho0 (fun k_ hk_ => (Nat.le_trans (below_size (zB HB)) hk_))) (below_size (zB HB))); replace HB := zF HB hb; (try clear hb ho0); obtain ⟨Ao13, co13, eo13⟩ := Kd.N_slice HO438.out; subst eo13) | ((with_reducible refine gate_dst (N := 24) rfl ?_); refine zL 24 3 [] (Below.refl _ _) (Nat.le_refl _) ?_; intro v440 w14 ho15 hb hg_ hnew_; clear hg_ hnew_; (first | rw [← Ny439.out] at ho15 | (simp only [Int.reduceToNat] at ho15; rw [← Ny439.out] at ho15)); have HO441 := zk (Kd.R_lower (Kd.R_newM (M := fun k_ => (w.heap.size ≤ k_)) ho15 (below_size (zB HB)) (fun k_ h_ => h_)) (below_size (zB HB))); replace HO438 := zEN HO438 ho15 hb; replace HB := zF HB hb; clear hb ho15))
     go_ret2
     exact ⟨_, by first | rfl | (simp [errW_none, errW_some] <;> rfl) | (simp [*, errW_none, errW_some] <;> rfl), Kd.R_V (by (with_reducible repeat (first | apply zs | apply zr | apply zt)); exact Kd.R_mono HO441.out (fun _ hk => hk.1)), by repeat (first | exact HB.out | apply za | apply zd | apply ze)⟩
   subst c7
   have H1 : (some ((([] : List Int)), false)) = some (r1, r2) := by rw [if_pos rfl] at H; exact H
   clear H
   have H := H1
   clear H1
   obtain ⟨y433, hy433⟩ : ∃ y_ : List Int, y_ = (([] : List Int)) := ⟨_, rfl⟩
   replace H : (some (y433, false)) = some (r1, r2) := by first | (rw [hy433]; with_reducible exact H) | (have H2_ := (Option.bind_some _ _).symm.trans H; rw [hy433]; with_reducible exact H2_) | (have H2_ := (Option.bind_some _ _).symm.trans H; with_reducible exact H2_) | with_reducible exact H | (rw [hy433]; exact H) | exact H
   have Ny433 := zk hy433
   clear hy433
   simp only [Option.some.injEq, Prod.mk.injEq] at H
   obtain ⟨rfl, rfl⟩ := H
   go_wp2_with (first | ((with_reducible refine gate_dst (N := 17) rfl ?_); refine zL 17 3 [] (Below.refl _ _) (Nat.le_refl _) ?_; intro v434 w8 ho9 hb hg_ hnew_; clear hg_ hnew_; (first | rw [← Ny433.out] at ho9 | (simp only [Int.reduceToNat] at ho9; rw [← Ny433.out] at ho9)); have HO435 := zk (Kd.R_lower (Kd.R_newM (M := fun k_ => (w.heap.size ≤ k_)) ho9 (below_size (zB HB)) (fun k_ h_ => h_)) (below_size (zB HB))); replace HB := zF HB hb; clear hb ho9))
   go_ret2
   exact ⟨_, by first | rfl | (simp [errW_none, errW_some] <;> rfl) | (simp [*, errW_none, errW_some] <;> rfl), Kd.R_V (by (with_reducible repeat (first | apply zs | apply zr | apply zt)); exact Kd.R_mono HO435.out (fun _ hk => hk.1)), by repeat (first | exact HB.out | apply za | apply zd | apply ze)⟩

/-! ### spec_DrawAvoidsAll: function 228 -/
def spec_DrawAvoidsAll.f (k : Nat) (l0 : List Int) : Option (List Int × (List (List Int))) := (spec_l1Cur_order.f k l0 0 0).bind fun bt447 => ((spec_l1Cur_patterns3.f k l0 bt447.2.1 bt447.2.2).bind fun bt452 => (some (bt447.1, bt452.1)))
set_option maxHeartbeats 8000000 in
set_option maxRecDepth 100000 in
theorem spec_DrawAvoidsAll.calls (k : Nat) (A0 : Option Addr) (c0 : Nat) (l0 : List Int) (r1 : List Int) (r2 : List (List Int)) (w : World) (hr0 : Kd.C (Kd.int .u8) w A0 l0.length l0) (hc0 : l0.length ≤ c0) (h : spec_DrawAvoidsAll.f k l0 = some (r1, r2)) :
 Calls Try.prog 228 #[.slice A0 l0.length c0] w fun e w' => ∃ v0_ v1_ : Value, e = .returned (.tuple #[v0_, v1_]) ∧ Kd.R (Kd.int .i64) 3 w' w.heap.size (fun _ => True) v0_ r1 ∧ Kd.S (Kd.slice 3 (Kd.int .i64)) 22 w' w.heap.size (fun k_ => some k_ ≠ (v0_ : Value).ownBlock) v1_ r2 ∧ Below w.heap.size w w' := by
 have hu102 := Try.underlying102
 have HR0 := zk hr0
 have HC0 := zk hc0
 clear hr0 hc0
 have HB := zk (Below.refl w.heap.size w)
 have H := h
 unfold spec_DrawAvoidsAll.f at H
 clear h
 replace H := Option.bind_eq_some_iff.mp H
 obtain ⟨⟨t447, t450, t451⟩, A20, H⟩ := H
 try dsimp only at H
 have A2 := zk A20
 clear A20
 replace H := Option.bind_eq_some_iff.mp H
 obtain ⟨⟨t452, t455, t456⟩, A30, H⟩ := H
 try dsimp only at H
 have A3 := zk A30
 clear A30
 simp only [Option.some.injEq, Prod.mk.injEq] at H
 obtain ⟨rfl, rfl⟩ := H
 go_enter Try.func228, Try.ntmps228
 go_wp2_with (first | ((with_reducible refine gate_dst (N := 7) rfl ?_); refine box_event ?hg (N := 7) ?hd (cs := #[.slice A0 l0.length c0, .int .i64 0, .int .u64 0]) (t := 102) ?hr ?_; (case hd => rfl); (case hg => rfl); (case hr => first | (go_simp; done) | (go_simp; rfl)); intro gb446 hg w4 hbox hb; have HI446 := zk ((⟨_, _, hbox, (by rw [hg]; exact (below_size (zB HB)) : w.heap.size ≤ gb446), HR0.out⟩ : IsS102 w _ gb446 l0 0 0)); have GW446 := zk ((by rw [hg]; exact (below_size (zB HB)) : w.heap.size ≤ gb446)); have GE446 := zk ((by rw [hg]; exact (below_size (zB HB)) : w.heap.size ≤ gb446)); replace HB := zF HB hb; clear hb hbox hg) | ((with_reducible refine gate_callee (f := 166) rfl ?_); refine zG (some 9) Try.func166 #[.pointer (some ⟨gb446, 0, none⟩)] ?_; (with_reducible refine (spec_l1Cur_order.calls k gb446 l0 0 0 t447 t450 t451 w _ ?side1 ?side2 A2.out).mono ?_); (case side1 => repeat (first | exact HI446.out | apply IsS102.alloc | apply IsS102.drewN | apply IsS102.drew | apply IsS102.set_1 | apply IsS102.set_2)); (case side2 => exact zBs HB (IsS102.ge HI446.out)); rintro e w5 ⟨v448, rfl, ho0, hi, hb, hk⟩; refine ⟨_, rfl, ?_⟩; have HO449 := zk (Kd.R_lower ho0 (below_size (zBs HB (IsS102.ge HI446.out)))); replace HB := zk (hb); replace HI446 := zk (hi); (try clear hb hk hi ho0)) | ((with_reducible refine gate_callee (f := 221) rfl ?_); refine zG (some 11) Try.func221 #[.pointer (some ⟨gb446, 0, none⟩)] ?_; (with_reducible refine (spec_l1Cur_patterns3.calls k gb446 l0 t450 t451 t452 t455 t456 w _ ?side1 ?side2 A3.out).mono ?_); (case side1 => repeat (first | exact HI446.out | apply IsS102.alloc | apply IsS102.drewN | apply IsS102.drew | apply IsS102.set_1 | apply IsS102.set_2)); (case side2 => exact zBs HB (IsS102.ge HI446.out)); rintro e w6 ⟨v453, rfl, ho0, hi, hb, hk⟩; refine ⟨_, rfl, ?_⟩; have HO454 := zk (Kd.S_lower (Kd.S_new' ho0 (Kd.R_lt (zR HO449))) (below_size (zBs HB (IsS102.ge HI446.out)))); replace HO449 := zk (Kd.R_mono (Kd.R_keep (IsS102.apart (show IsS102 w _ gb446 l0 t450 t451 from by repeat (first | exact HI446.out | apply IsS102.alloc | apply IsS102.drewN | apply IsS102.drew | apply IsS102.set_1 | apply IsS102.set_2)) (zR HO449) (by decide)) hk (fun _ h => h.2)) (fun _ h => h.1)); replace HB := zk (hb); replace HI446 := zk (hi); (try clear hb hk hi ho0)))
 go_ret2
 exact ⟨_, _, by first | rfl | (simp [errW_none, errW_some] <;> rfl) | (simp [*, errW_none, errW_some] <;> rfl), by (with_reducible repeat (first | apply zs | apply zr | apply zt)); exact HO449.out, by (with_reducible repeat (first | apply Kd.S_alloc | apply Kd.S_drewN | apply Kd.S_drew)); exact Kd.S_mono HO454.out (fun _ hk => hk.2), by repeat (first | (with_reducible first | exact HB.out | apply za | apply zd | apply ze | refine below_set ?_ (IsS102.ge HI446.out)) | exact HB.out)⟩

/-! ### spec_DrawCountChildren: function 113 -/
def spec_DrawCountChildren.f (k : Nat) (l0 : List Int) : Option (List Int × (List (List Int))) := (spec_DrawAvoidsAll.f k l0).bind fun bt457 => (some (bt457.1, bt457.2))
set_option maxHeartbeats 8000000 in
set_option maxRecDepth 100000 in
theorem spec_DrawCountChildren.calls (k : Nat) (A0 : Option Addr) (c0 : Nat) (l0 : List Int) (r1 : List Int) (r2 : List (List Int)) (w : World) (hr0 : Kd.C (Kd.int .u8) w A0 l0.length l0) (hc0 : l0.length ≤ c0) (h : spec_DrawCountChildren.f k l0 = some (r1, r2)) :
 Calls Try.prog 113 #[.slice A0 l0.length c0] w fun e w' => ∃ v0_ v1_ : Value, e = .returned (.tuple #[v0_, v1_]) ∧ Kd.R (Kd.int .i64) 3 w' w.heap.size (fun _ => True) v0_ r1 ∧ Kd.S (Kd.slice 3 (Kd.int .i64)) 22 w' w.heap.size (fun k_ => some k_ ≠ (v0_ : Value).ownBlock) v1_ r2 ∧ Below w.heap.size w w' := by
 have HR0 := zk hr0
 have HC0 := zk hc0
 clear hr0 hc0
 have HB := zk (Below.refl w.heap.size w)
 have H : ((spec_DrawAvoidsAll.f k l0).bind fun bt457 => (some (bt457.1, bt457.2))) = some (r1, r2) := h
 clear h
 replace H := Option.bind_eq_some_iff.mp H
 obtain ⟨⟨t457, t458⟩, A20, H⟩ := H
 try dsimp only at H
 have A2 := zk A20
 clear A20
 simp only [Option.some.injEq, Prod.mk.injEq] at H
 obtain ⟨rfl, rfl⟩ := H
 go_enter Try.func113, Try.ntmps113
 go_wp2_with (first | ((with_reducible refine gate_callee (f := 228) rfl ?_); refine zG (some 5) Try.func228 #[.slice A0 l0.length c0] ?_; (with_reducible refine (spec_DrawAvoidsAll.calls k _ _ l0 t457 t458 _ ?side1 ?side2 A2.out).mono ?_); (case side1 => exact zC HR0.out); (case side2 => exact HC0.out); rintro e w3 ⟨v459, v461, rfl, ho0, ho1, hb⟩; refine ⟨_, rfl, ?_⟩; have HO460 := zk (Kd.R_lower ho0 (below_size (zB HB))); have HO462 := zk (Kd.S_lower ho1 (below_size (zB HB))); replace HB := zF HB hb; (try clear hb ho0); (try clear ho1)))
 go_ret2
 exact ⟨_, _, by first | rfl | (simp [errW_none, errW_some] <;> rfl) | (simp [*, errW_none, errW_some] <;> rfl), by (with_reducible repeat (first | apply zs | apply zr | apply zt)); exact HO460.out, by (with_reducible repeat (first | apply Kd.S_alloc | apply Kd.S_drewN | apply Kd.S_drew)); exact HO462.out, by repeat (first | exact HB.out | apply za | apply zd | apply ze)⟩

/-! ### laws_vCut: function 114 -/
def laws_vCut.f (l0 : List Int) (a1 : Int) : Option (List Int) := if a1 > (l0.length : Int) then ((some (([] : List Int) : List Int)).bind fun y463 => (if 0 ≤ (l0.length : Int) then (if (l0.length : Int) ≤ (l0.length : Int) then ((some (l0.drop ((l0.length : Int) : Int).toNat : List Int)).bind fun y466 => (if y463.length + y466.length < 140737488355328 then ((some (y463 ++ y466 : List Int)).bind fun y470 => (if y470.length < 140737488355328 then (some (y470 ++ [((l0.length : Int)) % 256])) else (none))) else (none))) else (none)) else (none))) else ((some (([] : List Int) : List Int)).bind fun y476 => (if 0 ≤ a1 then (if a1 ≤ (l0.length : Int) then ((some (l0.drop (a1 : Int).toNat : List Int)).bind fun y479 => (if y476.length + y479.length < 140737488355328 then ((some (y476 ++ y479 : List Int)).bind fun y483 => (if y483.length < 140737488355328 then (some (y483 ++ [(a1) % 256])) else (none))) else (none))) else (none)) else (none)))
set_option maxHeartbeats 8000000 in
set_option maxRecDepth 100000 in
theorem laws_vCut.calls (A0 : Option Addr) (c0 : Nat) (l0 : List Int) (a1 : Int) (r : List Int) (w : World) (hr0 : Kd.C (Kd.int .u8) w A0 l0.length l0) (hc0 : l0.length ≤ c0) (h : laws_vCut.f l0 a1 = some r) :
 Calls Try.prog 114 #[.slice A0 l0.length c0, .int .i64 a1] w fun e w' => ∃ v0_ : Value, e = .returned (v0_) ∧ Kd.R (Kd.int .u8) 5 w' w.heap.size (fun _ => True) v0_ r ∧ Below w.heap.size w w' := by
 have HR0 := zk hr0
 have HC0 := zk hc0
 clear hr0 hc0
 have HB := zk (Below.refl w.heap.size w)
 have H := h
 unfold laws_vCut.f at H
 clear h
 by_cases c3 : a1 > (l0.length : Int)
 rotate_left
 · rw [if_neg c3] at H
   have c3b0 := decide_eq_false c3
   clear c3
   obtain ⟨y476, hy476⟩ : ∃ y_ : List Int, y_ = (([] : List Int)) := ⟨_, rfl⟩
   replace H : (if 0 ≤ a1 then (if a1 ≤ (l0.length : Int) then ((some (l0.drop (a1 : Int).toNat : List Int)).bind fun y479 => (if y476.length + y479.length < 140737488355328 then ((some (y476 ++ y479 : List Int)).bind fun y483 => (if y483.length < 140737488355328 then (some (y483 ++ [(a1) % 256])) else (none))) else (none))) else (none)) else (none)) = some r := by first | (rw [hy476]; with_reducible exact H) | (have H2_ := (Option.bind_some _ _).symm.trans H; rw [hy476]; with_reducible exact H2_) | (have H2_ := (Option.bind_some _ _).symm.trans H; with_reducible exact H2_) | with_reducible exact H | (rw [hy476]; exact H) | exact H
   have Ny476 := zk hy476
   clear hy476
   by_cases c13 : 0 ≤ a1
   rotate_left
   · rw [if_neg c13] at H
     exact absurd H (by simp)
   rw [if_pos c13] at H
   have c13b0 := eq_true c13
   have c13b1 := decide_eq_true c13
   clear c13
   by_cases c14 : a1 ≤ (l0.length : Int)
   rotate_left
   · rw [if_neg c14] at H
     exact absurd H (by simp)
   rw [if_pos c14] at H
   have c14b0 := eq_true c14
   have c14b1 := decide_eq_true c14
   clear c14
   obtain ⟨y479, hy479⟩ : ∃ y_ : List Int, y_ = (l0.drop (a1 : Int).toNat) := ⟨_, rfl⟩
   rw [← hy479] at H
   try rw [zO y479] at H
   try dsimp only at H
   have Ny479 := zk hy479
   clear hy479
   by_cases c15 : y476.length + y479.length < 140737488355328
   rotate_left
   · rw [if_neg c15] at H
     exact absurd H (by simp)
   rw [if_pos c15] at H
   have LMc15 := zk c15
   clear c15
   obtain ⟨y483, hy483⟩ : ∃ y_ : List Int, y_ = (y476 ++ y479) := ⟨_, rfl⟩
   replace H : (if y483.length < 140737488355328 then (some (y483 ++ [(a1) % 256])) else (none)) = some r := by first | (rw [hy483]; with_reducible exact H) | (have H2_ := (Option.bind_some _ _).symm.trans H; rw [hy483]; with_reducible exact H2_) | (have H2_ := (Option.bind_some _ _).symm.trans H; with_reducible exact H2_) | with_reducible exact H | (rw [hy483]; exact H) | exact H
   have Ny483 := zk hy483
   clear hy483
   by_cases c16 : y483.length < 140737488355328
   rotate_left
   · rw [if_neg c16] at H
     exact absurd H (by simp)
   rw [if_pos c16] at H
   have LMc16 := zk c16
   clear c16
   obtain ⟨y486, hy486⟩ : ∃ y_ : List Int, y_ = (y483 ++ [(a1) % 256]) := ⟨_, rfl⟩
   replace H : (some y486) = some r := by first | (rw [hy486]; with_reducible exact H) | (have H2_ := (Option.bind_some _ _).symm.trans H; rw [hy486]; with_reducible exact H2_) | (have H2_ := (Option.bind_some _ _).symm.trans H; with_reducible exact H2_) | with_reducible exact H | (rw [hy486]; exact H) | exact H
   have Ny486 := zk hy486
   clear hy486
   obtain rfl := Option.some.inj H
   go_enter Try.func114, Try.ntmps114
   go_wp2_with (first | ((with_reducible refine gate_dst (N := 11) rfl ?_); refine Kd.R_lit (Kd.int .u8) _ 5 ?hg (N := 11) ?hd (xs := ([] : List Int)) (inner := []) (ok := fun _ => True) (okp := fun _ => True) ?hr ?hp (fun _ hk => hk) trivial (Below.refl _ _) (Nat.le_refl _) (by simp) ?_; (case hd => rfl); (case hg => rfl); (case hr => first | (go_simp; done) | (go_simp; rfl)); (case hp => exact (Reps.none _ _)); intro v477 w17 ho18 hb hg_ hnew_; clear hg_ hnew_; (first | rw [← Ny476.out] at ho18 | (simp only [Int.reduceToNat] at ho18; rw [← Ny476.out] at ho18)); have HO478 := zk (Kd.R_lower ho18 (below_size (zB HB))); replace HB := zF HB hb; clear hb ho18; have q19 : (a1 : Int) ≤ ((l0.length : Int) : Int) := zo (by assumption); obtain ⟨i019, hi019, _, hsz19, _⟩ := info_parts info5; have hroom19 : l0.length ≤ c0 := HC0.out; have hC19 : Kd.C (Kd.int .u8) _ A0 l0.length l0 := HR0.out; have q019 : (0 : Int) ≤ (a1 : Int) := zo (by assumption); have hcut19 := cut_from (P := Try.prog) 40 5 .i64 Try.underlying40 hi019 1 hsz19 A0 l0.length c0 a1 q019 q19; have hr19 := Kd.C_drop (m := (a1 : Int).toNat) (c := c0) hC19 (by omega) hroom19; obtain ⟨A19, hA19⟩ : ∃ A1, A1 = (if c0 = (a1 : Int).toNat then A0 else (A0 : Option Addr).map (·.add ((a1 : Int).toNat * 1))) := ⟨_, rfl⟩; obtain ⟨c19, hc19⟩ : ∃ c1, c1 = c0 - (a1 : Int).toNat := ⟨_, rfl⟩; have hy19 : y479.length = l0.length - (a1 : Int).toNat := (by rw [Ny479.out, List.length_drop] <;> omega); rw [show (l0).drop (a1 : Int).toNat = y479 from Ny479.out.symm] at hr19; replace hr19 : Kd.C (Kd.int .u8) _ A19 y479.length y479 := (by rw [hA19]; exact hr19); rw [← hy19, ← hA19, ← hc19] at hcut19; have HR482 := zk hr19; have HC482 := zk (show y479.length ≤ c19 from by rw [hy19, hc19]; exact Nat.sub_le_sub_right hroom19 _); clear hr19 hC19 hroom19 hi019 hsz19 hc19; have KY19 := zk hy19; have KA19 := zk hA19; clear hy19 hA19; replace q19 := eq_true q19) | ((with_reducible refine gate_builtin (b := .append) (xs := #[.tmp 11, .tmp 14]) rfl ?_); at_builtin; refine Kd.R_append_rows (Kd.int .u8) (w0 := w) w.heap.size rfl (.tmp 11) (.tmp 14) 40 5 (.int .u8 0) 1 rfl Try.underlying40 info5 rfl (by decide) (by omega) v477 y476 y479 _ _ _ (fun _ => True) (fun _ => False) rfl rfl ?aO ?aR (fun _ _ h => h) (fun _ h => h.elim) ?aF ?aB ?aS ?aL ?_; (case aR => exact zC (Kd.C_below HR482.out HB.out)); (case aB => exact (zB HB)); (case aF => exact (fun _ _ => trivial)); (case aO => exact (zR HO478)); (case aS => exact (below_size (zB HB))); (case aL => have := LMc15.out; omega); intro v484 w20 ho hb hg hat; rw [← Ny483.out] at ho; have HO485 := zk (ho); replace HB := zk (hb); clear HO478; clear ho hb hg hat) | ((with_reducible refine gate_builtin (b := .append) (xs := #[.tmp 15, .tmp 18]) rfl ?_); at_builtin; refine Kd.R_append (Kd.int .u8) (w0 := w) w.heap.size rfl (.tmp 15) (.tmp 18) 40 5 (.int .u8 0) 1 rfl Try.underlying40 info5 rfl (by decide) (by omega) v484 y483 ((a1) % 256) [.int .u8 ((a1) % 256)] (fun _ => True) (fun _ => False) rfl rfl ?aP (fun _ hk => hk.elim) ?aF ?aO ?aB ?aS ?aL ?_; (case aP => exact rfl); (case aB => exact (zB HB)); (case aF => exact (fun _ _ => trivial)); (case aO => exact (zR HO485)); (case aS => exact (below_size (zB HB))); (case aL => have := LMc16.out; omega); intro v487 w21 ho hb hg hat; rw [← Ny486.out] at ho; have HO488 := zk (ho); replace HB := zk (hb); clear HO485; clear ho hb hg hat))
   go_ret
   exact ⟨_, by first | rfl | (simp [errW_none, errW_some] <;> rfl) | (simp [*, errW_none, errW_some] <;> rfl), by (with_reducible repeat (first | apply zs | apply zr | apply zt)); exact HO488.out, by repeat (first | exact HB.out | apply za | apply zd | apply ze)⟩
 rw [if_pos c3] at H
 have c3b0 := decide_eq_true c3
 clear c3
 obtain ⟨y463, hy463⟩ : ∃ y_ : List Int, y_ = (([] : List Int)) := ⟨_, rfl⟩
 replace H : (if 0 ≤ (l0.length : Int) then (if (l0.length : Int) ≤ (l0.length : Int) then ((some (l0.drop ((l0.length : Int) : Int).toNat : List Int)).bind fun y466 => (if y463.length + y466.length < 140737488355328 then ((some (y463 ++ y466 : List Int)).bind fun y470 => (if y470.length < 140737488355328 then (some (y470 ++ [((l0.length : Int)) % 256])) else (none))) else (none))) else (none)) else (none)) = some r := by first | (rw [hy463]; with_reducible exact H) | (have H2_ := (Option.bind_some _ _).symm.trans H; rw [hy463]; with_reducible exact H2_) | (have H2_ := (Option.bind_some _ _).symm.trans H; with_reducible exact H2_) | with_reducible exact H | (rw [hy463]; exact H) | exact H
 have Ny463 := zk hy463
 clear hy463
 by_cases c4 : 0 ≤ (l0.length : Int)
 rotate_left
 · rw [if_neg c4] at H
   exact absurd H (by simp)
 rw [if_pos c4] at H
 have c4b0 := eq_true c4
 have c4b1 := decide_eq_true c4
 clear c4
 by_cases c5 : (l0.length : Int) ≤ (l0.length : Int)
 rotate_left
 · rw [if_neg c5] at H
   exact absurd H (by simp)
 rw [if_pos c5] at H
 have c5b0 := eq_true c5
 have c5b1 := decide_eq_true c5
 clear c5
 obtain ⟨y466, hy466⟩ : ∃ y_ : List Int, y_ = (l0.drop ((l0.length : Int) : Int).toNat) := ⟨_, rfl⟩
 rw [← hy466] at H
 try rw [zO y466] at H
 try dsimp only at H
 have Ny466 := zk hy466
 clear hy466
 by_cases c6 : y463.length + y466.length < 140737488355328
 rotate_left
 · rw [if_neg c6] at H
   exact absurd H (by simp)
 rw [if_pos c6] at H
 have LMc6 := zk c6
 clear c6
 obtain ⟨y470, hy470⟩ : ∃ y_ : List Int, y_ = (y463 ++ y466) := ⟨_, rfl⟩
 replace H : (if y470.length < 140737488355328 then (some (y470 ++ [((l0.length : Int)) % 256])) else (none)) = some r := by first | (rw [hy470]; with_reducible exact H) | (have H2_ := (Option.bind_some _ _).symm.trans H; rw [hy470]; with_reducible exact H2_) | (have H2_ := (Option.bind_some _ _).symm.trans H; with_reducible exact H2_) | with_reducible exact H | (rw [hy470]; exact H) | exact H
 have Ny470 := zk hy470
 clear hy470
 by_cases c7 : y470.length < 140737488355328
 rotate_left
 · rw [if_neg c7] at H
   exact absurd H (by simp)
 rw [if_pos c7] at H
 have LMc7 := zk c7
 clear c7
 obtain ⟨y473, hy473⟩ : ∃ y_ : List Int, y_ = (y470 ++ [((l0.length : Int)) % 256]) := ⟨_, rfl⟩
 replace H : (some y473) = some r := by first | (rw [hy473]; with_reducible exact H) | (have H2_ := (Option.bind_some _ _).symm.trans H; rw [hy473]; with_reducible exact H2_) | (have H2_ := (Option.bind_some _ _).symm.trans H; with_reducible exact H2_) | with_reducible exact H | (rw [hy473]; exact H) | exact H
 have Ny473 := zk hy473
 clear hy473
 obtain rfl := Option.some.inj H
 go_enter Try.func114, Try.ntmps114
 go_wp2_with (first | ((with_reducible refine gate_dst (N := 11) rfl ?_); refine Kd.R_lit (Kd.int .u8) _ 5 ?hg (N := 11) ?hd (xs := ([] : List Int)) (inner := []) (ok := fun _ => True) (okp := fun _ => True) ?hr ?hp (fun _ hk => hk) trivial (Below.refl _ _) (Nat.le_refl _) (by simp) ?_; (case hd => rfl); (case hg => rfl); (case hr => first | (go_simp; done) | (go_simp; rfl)); (case hp => exact (Reps.none _ _)); intro v464 w8 ho9 hb hg_ hnew_; clear hg_ hnew_; (first | rw [← Ny463.out] at ho9 | (simp only [Int.reduceToNat] at ho9; rw [← Ny463.out] at ho9)); have HO465 := zk (Kd.R_lower ho9 (below_size (zB HB))); replace HB := zF HB hb; clear hb ho9; have q10 : ((l0.length : Int) : Int) ≤ ((l0.length : Int) : Int) := zo (by assumption); obtain ⟨i010, hi010, _, hsz10, _⟩ := info_parts info5; have hroom10 : l0.length ≤ c0 := HC0.out; have hC10 : Kd.C (Kd.int .u8) _ A0 l0.length l0 := HR0.out; have q010 : (0 : Int) ≤ ((l0.length : Int) : Int) := zo (by assumption); have hcut10 := cut_from (P := Try.prog) 40 5 .i64 Try.underlying40 hi010 1 hsz10 A0 l0.length c0 (l0.length : Int) q010 q10; have hr10 := Kd.C_drop (m := ((l0.length : Int) : Int).toNat) (c := c0) hC10 (by omega) hroom10; obtain ⟨A10, hA10⟩ : ∃ A1, A1 = (if c0 = ((l0.length : Int) : Int).toNat then A0 else (A0 : Option Addr).map (·.add (((l0.length : Int) : Int).toNat * 1))) := ⟨_, rfl⟩; obtain ⟨c10, hc10⟩ : ∃ c1, c1 = c0 - ((l0.length : Int) : Int).toNat := ⟨_, rfl⟩; have hy10 : y466.length = l0.length - ((l0.length : Int) : Int).toNat := (by rw [Ny466.out, List.length_drop] <;> omega); rw [show (l0).drop ((l0.length : Int) : Int).toNat = y466 from Ny466.out.symm] at hr10; replace hr10 : Kd.C (Kd.int .u8) _ A10 y466.length y466 := (by rw [hA10]; exact hr10); rw [← hy10, ← hA10, ← hc10] at hcut10; have HR469 := zk hr10; have HC469 := zk (show y466.length ≤ c10 from by rw [hy10, hc10]; exact Nat.sub_le_sub_right hroom10 _); clear hr10 hC10 hroom10 hi010 hsz10 hc10; have KY10 := zk hy10; have KA10 := zk hA10; clear hy10 hA10; replace q10 := eq_true q10) | ((with_reducible refine gate_builtin (b := .append) (xs := #[.tmp 11, .tmp 14]) rfl ?_); at_builtin; refine Kd.R_append_rows (Kd.int .u8) (w0 := w) w.heap.size rfl (.tmp 11) (.tmp 14) 40 5 (.int .u8 0) 1 rfl Try.underlying40 info5 rfl (by decide) (by omega) v464 y463 y466 _ _ _ (fun _ => True) (fun _ => False) rfl rfl ?aO ?aR (fun _ _ h => h) (fun _ h => h.elim) ?aF ?aB ?aS ?aL ?_; (case aR => exact zC (Kd.C_below HR469.out HB.out)); (case aB => exact (zB HB)); (case aF => exact (fun _ _ => trivial)); (case aO => exact (zR HO465)); (case aS => exact (below_size (zB HB))); (case aL => have := LMc6.out; omega); intro v471 w11 ho hb hg hat; rw [← Ny470.out] at ho; have HO472 := zk (ho); replace HB := zk (hb); clear HO465; clear ho hb hg hat) | ((with_reducible refine gate_builtin (b := .append) (xs := #[.tmp 15, .tmp 18]) rfl ?_); at_builtin; refine Kd.R_append (Kd.int .u8) (w0 := w) w.heap.size rfl (.tmp 15) (.tmp 18) 40 5 (.int .u8 0) 1 rfl Try.underlying40 info5 rfl (by decide) (by omega) v471 y470 (((l0.length : Int)) % 256) [.int .u8 (((l0.length : Int)) % 256)] (fun _ => True) (fun _ => False) rfl rfl ?aP (fun _ hk => hk.elim) ?aF ?aO ?aB ?aS ?aL ?_; (case aP => exact rfl); (case aB => exact (zB HB)); (case aF => exact (fun _ _ => trivial)); (case aO => exact (zR HO472)); (case aS => exact (below_size (zB HB))); (case aL => have := LMc7.out; omega); intro v474 w12 ho hb hg hat; rw [← Ny473.out] at ho; have HO475 := zk (ho); replace HB := zk (hb); clear HO472; clear ho hb hg hat))
 go_ret
 exact ⟨_, by first | rfl | (simp [errW_none, errW_some] <;> rfl) | (simp [*, errW_none, errW_some] <;> rfl), by (with_reducible repeat (first | apply zs | apply zr | apply zt)); exact HO475.out, by repeat (first | exact HB.out | apply za | apply zd | apply ze)⟩

/-! ### impl_insertLast: function 230 -/
def impl_insertLast.l0 : Nat → Int → List Int → List Int → Int → Int → Option (List Int)
 | 0, _, _, _, _, _ => none
 | k + 1, x1, x5, x9, x10, x11 => if x11 < x10 then (if 0 ≤ x11 then (if x11 < (x9.length : Int) then (if (rd x9 x11) ≥ x1 then (if x5.length < 17592186044416 then (impl_insertLast.l0 k x1 (x5 ++ [wrap64 ((rd x9 x11) + 1)]) x9 x10 (wrap64 (x11 + 1))) else (none)) else (if x5.length < 17592186044416 then (impl_insertLast.l0 k x1 (x5 ++ [rd x9 x11]) x9 x10 (wrap64 (x11 + 1))) else (none))) else (none)) else (none)) else (if x5.length < 17592186044416 then (some (x5 ++ [x1])) else (none))
def impl_insertLast.f (k : Nat) (l0 : List Int) (a1 : Int) : Option (List Int) := impl_insertLast.l0 k a1 (([] : List Int)) l0 (l0.length : Int) 0
set_option maxHeartbeats 8000000 in
set_option maxRecDepth 100000 in
theorem impl_insertLast.calls (k : Nat) (A0 : Option Addr) (c0 : Nat) (l0 : List Int) (a1 : Int) (r : List Int) (w : World) (hr0 : Kd.C (Kd.int .i64) w A0 l0.length l0) (hc0 : l0.length ≤ c0) (h : impl_insertLast.f k l0 a1 = some r) :
 Calls Try.prog 230 #[.slice A0 l0.length c0, .int .i64 a1] w fun e w' => ∃ v0_ : Value, e = .returned (v0_) ∧ Kd.R (Kd.int .i64) 3 w' w.heap.size (fun _ => True) v0_ r ∧ Below w.heap.size w w' := by
 have HR0 := zk hr0
 have HC0 := zk hc0
 clear hr0 hc0
 have HB := zk (Below.refl w.heap.size w)
 have H : (impl_insertLast.l0 k a1 (([] : List Int)) l0 (l0.length : Int) 0) = some r := h
 clear h
 obtain ⟨y489, hy489⟩ : ∃ y_ : List Int, y_ = (([] : List Int)) := ⟨_, rfl⟩
 replace H : (impl_insertLast.l0 k a1 y489 l0 (l0.length : Int) 0) = some r := by first | (rw [hy489]; with_reducible exact H) | (have H2_ := (Option.bind_some _ _).symm.trans H; rw [hy489]; with_reducible exact H2_) | (have H2_ := (Option.bind_some _ _).symm.trans H; with_reducible exact H2_) | with_reducible exact H | (rw [hy489]; exact H) | exact H
 have Ny489 := zk hy489
 clear hy489
 have H' := zk H
 clear H
 go_enter Try.func230, Try.ntmps230
 go_wp2_with (first | ((with_reducible refine gate_dst (N := 8) rfl ?_); refine zL 8 3 [] (Below.refl _ _) (Nat.le_refl _) ?_; intro v490 w3 ho4 hb hg_ hnew_; clear hg_ hnew_; (first | rw [← Ny489.out] at ho4 | (simp only [Int.reduceToNat] at ho4; rw [← Ny489.out] at ho4)); have HO491 := zk (Kd.R_lower ho4 (below_size (zB HB))); replace HB := zF HB hb; clear hb ho4))
 go_loopg [5, 11] k (fun kq v5 v11 w' => ∃ (x5_1 : List Int) (x11_1 : Int), v11 = .int .i64 x11_1 ∧ Aside0 (impl_insertLast.l0 kq a1 x5_1 l0 (l0.length : Int) x11_1 = some r) ∧ Aside0 (kq ≤ k) ∧ Aside0 (Kd.R (Kd.int .i64) 3 w' w.heap.size (fun _ => True) v5 x5_1) ∧ Aside0 (Below w.heap.size w w'))
 case atStart => exact ⟨(y489), (0), (by first | rfl | (simp; done) | (simp [*]; done)), H', ⟨Nat.le_refl _⟩, ⟨by (with_reducible repeat (first | apply zs | apply zr | apply zt)); exact HO491.out⟩, ⟨by repeat (first | exact HB.out | apply za | apply zd | apply ze)⟩⟩
 case round =>
  clear H'
  try clear c2
  try clear p2
  obtain ⟨x5_1, x11_1, rfl, HA, HK1, HO_5, HB⟩ := hrel
  cases gk with
  | zero => exact absurd HA.out (by simp [impl_insertLast.l0])
  | succ k1 =>
   have H := HA.out
   clear HA
   simp only [impl_insertLast.l0] at H
   by_cases c5 : x11_1 < (l0.length : Int)
   rotate_left
   · rw [if_neg c5] at H
     have c5b0 := decide_eq_false c5
     clear c5
     by_cases c13 : x5_1.length < 17592186044416
     rotate_left
     · rw [if_neg c13] at H
       exact absurd H (by simp)
     rw [if_pos c13] at H
     have LMc13 := zk c13
     clear c13
     obtain ⟨y499, hy499⟩ : ∃ y_ : List Int, y_ = (x5_1 ++ [a1]) := ⟨_, rfl⟩
     replace H : (some y499) = some r := by first | (rw [hy499]; with_reducible exact H) | (have H2_ := (Option.bind_some _ _).symm.trans H; rw [hy499]; with_reducible exact H2_) | (have H2_ := (Option.bind_some _ _).symm.trans H; with_reducible exact H2_) | with_reducible exact H | (rw [hy499]; exact H) | exact H
     have Ny499 := zk hy499
     clear hy499
     obtain rfl := Option.some.inj H
     go_wp2_with (first | ((with_reducible refine gate_builtin (b := .append) (xs := #[.tmp 25, .tmp 27]) rfl ?_); at_builtin; refine Kd.R_append (Kd.int .i64) (w0 := w) w.heap.size rfl (.tmp 25) (.tmp 27) 22 3 (.int .i64 0) 8 rfl Try.underlying22 info3 rfl (by decide) (by omega) u5 x5_1 a1 [.int .i64 a1] (fun _ => True) (fun _ => False) rfl rfl ?aP (fun _ hk => hk.elim) ?aF ?aO ?aB ?aS ?aL ?_; (case aP => exact rfl); (case aB => exact (zB HB)); (case aF => exact (fun _ _ => trivial)); (case aO => exact (zR HO_5)); (case aS => exact (below_size (zB HB))); (case aL => have := LMc13.out; omega); intro v500 w14 ho hb hg hat; rw [← Ny499.out] at ho; have HO501 := zk (ho); replace HB := zk (hb); clear HO_5; clear ho hb hg hat))
     go_ret
     exact ⟨_, by first | rfl | (simp [errW_none, errW_some] <;> rfl) | (simp [*, errW_none, errW_some] <;> rfl), by (with_reducible repeat (first | apply zs | apply zr | apply zt)); exact HO501.out, by repeat (first | exact HB.out | apply za | apply zd | apply ze)⟩
   rw [if_pos c5] at H
   have c5b0 := decide_eq_true c5
   clear c5
   by_cases c6 : 0 ≤ x11_1
   rotate_left
   · rw [if_neg c6] at H
     exact absurd H (by simp)
   rw [if_pos c6] at H
   have c6b0 := decide_eq_true c6
   clear c6
   by_cases c7 : x11_1 < (l0.length : Int)
   rotate_left
   · rw [if_neg c7] at H
     exact absurd H (by simp)
   rw [if_pos c7] at H
   have c7b0 := decide_eq_true c7
   clear c7
   by_cases c8 : (rd l0 x11_1) ≥ a1
   rotate_left
   · rw [if_neg c8] at H
     have c8b0 := decide_eq_false c8
     clear c8
     by_cases c11 : x5_1.length < 17592186044416
     rotate_left
     · rw [if_neg c11] at H
       exact absurd H (by simp)
     rw [if_pos c11] at H
     have LMc11 := zk c11
     clear c11
     obtain ⟨y496, hy496⟩ : ∃ y_ : List Int, y_ = (x5_1 ++ [rd l0 x11_1]) := ⟨_, rfl⟩
     replace H : (impl_insertLast.l0 k1 a1 y496 l0 (l0.length : Int) (wrap64 (x11_1 + 1))) = some r := by first | (rw [hy496]; with_reducible exact H) | (have H2_ := (Option.bind_some _ _).symm.trans H; rw [hy496]; with_reducible exact H2_) | (have H2_ := (Option.bind_some _ _).symm.trans H; with_reducible exact H2_) | with_reducible exact H | (rw [hy496]; exact H) | exact H
     have Ny496 := zk hy496
     clear hy496
     have H' := zk H
     clear H
     have p492 : 0 ≤ (x11_1 : Int) := zo (by assumption)
     have q492 : x11_1 < (l0.length : Int) := zo (by assumption)
     obtain ⟨ad492, e492, hx492_0⟩ := Kd.at_int HR0.out x11_1 p492 q492
     cases e492
     replace hx492_0 := (HB.out.cell (World.block_lt_of_cell? w _ hx492_0)).trans hx492_0
     replace p492 := eq_true p492
     replace q492 := eq_true q492
     go_wp2_with (first | ((with_reducible refine gate_builtin (b := .append) (xs := #[.tmp 20, .tmp 22]) rfl ?_); at_builtin; refine Kd.R_append (Kd.int .i64) (w0 := w) w.heap.size rfl (.tmp 20) (.tmp 22) 22 3 (.int .i64 0) 8 rfl Try.underlying22 info3 rfl (by decide) (by omega) u5 x5_1 (rd l0 x11_1) [.int .i64 (rd l0 x11_1)] (fun _ => True) (fun _ => False) rfl rfl ?aP (fun _ hk => hk.elim) ?aF ?aO ?aB ?aS ?aL ?_; (case aP => exact rfl); (case aB => exact (zB HB)); (case aF => exact (fun _ _ => trivial)); (case aO => exact (zR HO_5)); (case aS => exact (below_size (zB HB))); (case aL => have := LMc11.out; omega); intro v497 w12 ho hb hg hat; rw [← Ny496.out] at ho; have HO498 := zk (ho); replace HB := zk (hb); clear HO_5; clear ho hb hg hat))
     go_roundg k1
     case measure => have := HK1.out; omega
     case rel => exact ⟨(y496), (wrap64 (x11_1 + 1)), (by first | rfl | (simp; done) | (simp [*]; done)), H', ⟨by have := HK1.out; omega⟩, ⟨by (with_reducible repeat (first | apply zs | apply zr | apply zt)); exact HO498.out⟩, ⟨by repeat (first | exact HB.out | apply za | apply zd | apply ze)⟩⟩
   rw [if_pos c8] at H
   have c8b0 := decide_eq_true c8
   clear c8
   by_cases c9 : x5_1.length < 17592186044416
   rotate_left
   · rw [if_neg c9] at H
     exact absurd H (by simp)
   rw [if_pos c9] at H
   have LMc9 := zk c9
   clear c9
   obtain ⟨y493, hy493⟩ : ∃ y_ : List Int, y_ = (x5_1 ++ [wrap64 ((rd l0 x11_1) + 1)]) := ⟨_, rfl⟩
   replace H : (impl_insertLast.l0 k1 a1 y493 l0 (l0.length : Int) (wrap64 (x11_1 + 1))) = some r := by first | (rw [hy493]; with_reducible exact H) | (have H2_ := (Option.bind_some _ _).symm.trans H; rw [hy493]; with_reducible exact H2_) | (have H2_ := (Option.bind_some _ _).symm.trans H; with_reducible exact H2_) | with_reducible exact H | (rw [hy493]; exact H) | exact H
   have Ny493 := zk hy493
   clear hy493
   have H' := zk H
   clear H
   have p492 : 0 ≤ (x11_1 : Int) := zo (by assumption)
   have q492 : x11_1 < (l0.length : Int) := zo (by assumption)
   obtain ⟨ad492, e492, hx492_0⟩ := Kd.at_int HR0.out x11_1 p492 q492
   cases e492
   replace hx492_0 := (HB.out.cell (World.block_lt_of_cell? w _ hx492_0)).trans hx492_0
   replace p492 := eq_true p492
   replace q492 := eq_true q492
   go_wp2_with (first | ((with_reducible refine gate_builtin (b := .append) (xs := #[.tmp 20, .tmp 22]) rfl ?_); at_builtin; refine Kd.R_append (Kd.int .i64) (w0 := w) w.heap.size rfl (.tmp 20) (.tmp 22) 22 3 (.int .i64 0) 8 rfl Try.underlying22 info3 rfl (by decide) (by omega) u5 x5_1 (wrap64 ((rd l0 x11_1) + 1)) [.int .i64 (wrap64 ((rd l0 x11_1) + 1))] (fun _ => True) (fun _ => False) rfl rfl ?aP (fun _ hk => hk.elim) ?aF ?aO ?aB ?aS ?aL ?_; (case aP => exact rfl); (case aB => exact (zB HB)); (case aF => exact (fun _ _ => trivial)); (case aO => exact (zR HO_5)); (case aS => exact (below_size (zB HB))); (case aL => have := LMc9.out; omega); intro v494 w10 ho hb hg hat; rw [← Ny493.out] at ho; have HO495 := zk (ho); replace HB := zk (hb); clear HO_5; clear ho hb hg hat))
   go_roundg k1
   case measure => have := HK1.out; omega
   case rel => exact ⟨(y493), (wrap64 (x11_1 + 1)), (by first | rfl | (simp; done) | (simp [*]; done)), H', ⟨by have := HK1.out; omega⟩, ⟨by (with_reducible repeat (first | apply zs | apply zr | apply zt)); exact HO495.out⟩, ⟨by repeat (first | exact HB.out | apply za | apply zd | apply ze)⟩⟩

end Go.Proofs.Ytlkddcabjcejdaa.MFnAvoiding
