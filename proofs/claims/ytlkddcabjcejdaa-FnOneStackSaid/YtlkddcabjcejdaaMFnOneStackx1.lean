/- The functions that FnOneStack comes to, with a walk for each. Made by this session's own program (wip/tools/mk.py), in the form of the kit's print; walks named in NOTES.md were written by hand. -/
import Derived.Test.YtlkddcabjcejdaaMFnOneStackx0
namespace Go.Proofs.Ytlkddcabjcejdaa.MFnOneStack
open Go.RowKit Go.Proofs.YtlkddcabjcejdaaW.PrintWords Go.Proofs.YtlkddcabjcejdaaW.PrintLast Go.Proofs.YtlkddcabjcejdaaW.PrintMore
attribute [local go_sem] max2_int min2_int max_two min_two max_three min_three max_four min_four   -- for this text's walks alone
set_option linter.unusedVariables false
set_option linter.unusedSimpArgs false

/-! ### spec_l1In: function 154 -/
def spec_l1In.f (a0 : Int) (a1 : Int) (a2 : Int) : Option (Bool) := if a0 ≥ a1 then (some (decide (a0 ≤ a2))) else (some false)
set_option maxHeartbeats 8000000 in
set_option maxRecDepth 100000 in
theorem spec_l1In.calls (a0 : Int) (a1 : Int) (a2 : Int) (r : Bool) (w : World) (h : spec_l1In.f a0 a1 a2 = some r) :
 Calls Try.prog 154 #[.int .i64 a0, .int .i64 a1, .int .i64 a2] w fun e w' => e = .returned (.bool r) ∧ Drawn0 w w' := by
 have H : (if a0 ≥ a1 then (some (decide (a0 ≤ a2))) else (some false)) = some r := h
 clear h
 by_cases c4 : a0 ≥ a1
 · rw [if_pos c4] at H
   have c4b0 : decide (a1 ≤ a0) = true := decide_eq_true c4
   clear c4
   obtain rfl := Option.some.inj H
   go_enter Try.func154, Try.ntmps154
   go_wp2
   go_ret
   exact ⟨by first | rfl | (simp; done) | (simp [*]; done), by repeat (first | exact Drawn0.refl _ | apply Drawn0.step)⟩
 · rw [if_neg c4] at H
   have c4b0 : decide (a1 ≤ a0) = false := decide_eq_false c4
   clear c4
   obtain rfl := Option.some.inj H
   go_enter Try.func154, Try.ntmps154
   go_wp2
   go_ret
   exact ⟨by first | rfl | (simp; done) | (simp [*]; done), by repeat (first | exact Drawn0.refl _ | apply Drawn0.step)⟩

/-! ### spec_l1Has: function 244 -/
def spec_l1Has.l0 : Nat → List Int → Int → Int → Option (Bool)
 | 0, _, _, _ => none
 | k + 1, x0, x1, x5 => if x5 < (x0.length : Int) then (if 0 ≤ x5 then (if (rd x0 x5) = x1 then (some true) else (spec_l1Has.l0 k x0 x1 (wrap64 (x5 + 1)))) else (none)) else (some false)
def spec_l1Has.f (k : Nat) (l0 : List Int) (a1 : Int) : Option (Bool) := spec_l1Has.l0 k l0 a1 0
set_option maxHeartbeats 8000000 in
set_option maxRecDepth 100000 in
theorem spec_l1Has.calls (k : Nat) (A0 : Option Addr) (c0 : Nat) (l0 : List Int) (a1 : Int) (r : Bool) (w : World) (hr0 : Kd.C (Kd.int .i64) w A0 l0.length l0) (hc0 : l0.length ≤ c0) (h : spec_l1Has.f k l0 a1 = some r) :
 Calls Try.prog 244 #[.slice A0 l0.length c0, .int .i64 a1] w fun e w' => e = .returned (.bool r) ∧ Drawn0 w w' := by
 have HR0 := zk hr0
 have HC0 := zk hc0
 clear hr0 hc0
 have H : (spec_l1Has.l0 k l0 a1 0) = some r := h
 clear h
 have H' := zk H
 clear H
 go_enter Try.func244, Try.ntmps244
 go_wp2
 go_loopg [5] k (fun kq v5 w' => ∃ (x5_1 : Int), v5 = .int .i64 x5_1 ∧ Aside0 (spec_l1Has.l0 kq l0 a1 x5_1 = some r) ∧ Aside0 (kq ≤ k) ∧ Drawn0 w w')
 case atStart => exact ⟨(0), (by first | rfl | (simp; done) | (simp [*]; done)), H', ⟨Nat.le_refl _⟩, by repeat (first | exact Drawn0.refl _ | apply Drawn0.step)⟩
 case round =>
  clear H'
  try clear c2
  try clear p2
  obtain ⟨x5_1, rfl, HA, HK1, ⟨m1, rfl⟩⟩ := hrel
  cases gk with
  | zero => exact absurd HA.out (by simp [spec_l1Has.l0])
  | succ k1 =>
   have H := HA.out
   clear HA
   simp only [spec_l1Has.l0] at H
   by_cases c3 : x5_1 < (l0.length : Int)
   · rw [if_pos c3] at H
     have c3b0 : decide (x5_1 < (l0.length : Int)) = true := decide_eq_true c3
     clear c3
     by_cases c4 : 0 ≤ x5_1
     · rw [if_pos c4] at H
       have c4b0 : decide (0 ≤ x5_1) = true := decide_eq_true c4
       clear c4
       by_cases c5 : (rd l0 x5_1) = a1
       · rw [if_pos c5] at H
         have c5b0 : ((rd l0 x5_1) == a1) = true := beq_iff_eq.mpr c5
         have c5b1 : ((rd l0 x5_1) != a1) = false := bne_eq_false_iff_eq.mpr c5
         clear c5
         obtain rfl := Option.some.inj H
         have p101 : 0 ≤ (x5_1 : Int) := zo (by assumption)
         have q101 : x5_1 < (l0.length : Int) := zo (by assumption)
         obtain ⟨ad101, e101, hx101_0⟩ := Kd.at_int HR0.out x5_1 p101 q101
         cases e101
         replace p101 := eq_true p101
         replace q101 := eq_true q101
         go_wp2
         go_ret
         exact ⟨by first | rfl | (simp; done) | (simp [*]; done), by repeat (first | exact Drawn0.refl _ | apply Drawn0.step)⟩
       · rw [if_neg c5] at H
         have c5b0 : ((rd l0 x5_1) == a1) = false := beq_eq_false_iff_ne.mpr c5
         have c5b1 : ((rd l0 x5_1) != a1) = true := bne_iff_ne.mpr c5
         have H' := zk H
         clear H
         have p101 : 0 ≤ (x5_1 : Int) := zo (by assumption)
         have q101 : x5_1 < (l0.length : Int) := zo (by assumption)
         obtain ⟨ad101, e101, hx101_0⟩ := Kd.at_int HR0.out x5_1 p101 q101
         cases e101
         replace p101 := eq_true p101
         replace q101 := eq_true q101
         go_wp2
         go_roundg k1
         case measure => have := HK1.out; omega
         case rel => exact ⟨(wrap64 (x5_1 + 1)), (by first | rfl | (simp; done) | (simp [*]; done)), H', ⟨by have := HK1.out; omega⟩, by repeat (first | exact Drawn0.refl _ | apply Drawn0.step)⟩
     · rw [if_neg c4] at H
       exact absurd H (by simp)
   · rw [if_neg c3] at H
     have c3b0 : decide (x5_1 < (l0.length : Int)) = false := decide_eq_false c3
     clear c3
     obtain rfl := Option.some.inj H
     go_wp2
     go_ret
     exact ⟨by first | rfl | (simp; done) | (simp [*]; done), by repeat (first | exact Drawn0.refl _ | apply Drawn0.step)⟩

/-! ### spec_l2Order: function 142 -/
def spec_l2Order.l0 : Nat → List Int → Int → Option (Bool)
 | 0, _, _ => none
 | k + 1, x0, x3 => if x3 < (x0.length : Int) then (if 0 ≤ x3 then ((spec_l1In.f (rd x0 x3) 1 (x0.length : Int)).bind fun t104 => (if t104 = true then (if x3 ≤ (x0.length : Int) then ((spec_l1Has.f k (x0.take (x3 : Int).toNat) (rd x0 x3)).bind fun t110 => (if t110 = true then (some false) else (spec_l2Order.l0 k x0 (wrap64 (x3 + 1))))) else (none)) else (some false))) else (none)) else (some true)
def spec_l2Order.f (k : Nat) (l0 : List Int) : Option (Bool) := (spec_l1In.f (l0.length : Int) 1 7).bind fun t102 => (if t102 = true then (spec_l2Order.l0 k l0 0) else (some false))
set_option maxHeartbeats 8000000 in
set_option maxRecDepth 100000 in
theorem spec_l2Order.calls (k : Nat) (A0 : Option Addr) (c0 : Nat) (l0 : List Int) (r : Bool) (w : World) (hr0 : Kd.C (Kd.int .i64) w A0 l0.length l0) (hc0 : l0.length ≤ c0) (h : spec_l2Order.f k l0 = some r) :
 Calls Try.prog 142 #[.slice A0 l0.length c0] w fun e w' => e = .returned (.bool r) ∧ Drawn0 w w' := by
 have HR0 := zk hr0
 have HC0 := zk hc0
 clear hr0 hc0
 have H : ((spec_l1In.f (l0.length : Int) 1 7).bind fun t102 => (if t102 = true then (spec_l2Order.l0 k l0 0) else (some false))) = some r := h
 clear h
 replace H := Option.bind_eq_some_iff.mp H
 obtain ⟨t102, A20, H⟩ := H
 try dsimp only at H
 have A2 := zk A20
 clear A20
 by_cases c3 : t102 = true
 · subst c3
   have H1 : (spec_l2Order.l0 k l0 0) = some r := by rw [if_pos rfl] at H; exact H
   clear H
   have H := H1
   clear H1
   have H' := zk H
   clear H
   go_enter Try.func142, Try.ntmps142
   go_wp2_with (first | (go_at_call 154; (with_reducible refine (spec_l1In.calls (l0.length : Int) 1 7 true _ A2.out).mono ?_); rintro e w' ⟨rfl, ⟨nd, rfl⟩⟩; (try first | exact ⟨rfl, _, World.drewN_drewN _ _ _⟩ | exact ⟨rfl, _, Eq.trans (World.drewN_drewN _ _ _) (congrArg (World.drewN _) (Nat.add_assoc _ _ _))⟩)))
   repeat (go_quiet (first | (go_at_call 154; (with_reducible refine (spec_l1In.calls (l0.length : Int) 1 7 true _ A2.out).mono ?_); rintro e w' ⟨rfl, ⟨nd, rfl⟩⟩; (try first | exact ⟨rfl, _, World.drewN_drewN _ _ _⟩ | exact ⟨rfl, _, Eq.trans (World.drewN_drewN _ _ _) (congrArg (World.drewN _) (Nat.add_assoc _ _ _))⟩))); try go_wp2_with (first | (go_at_call 154; (with_reducible refine (spec_l1In.calls (l0.length : Int) 1 7 true _ A2.out).mono ?_); rintro e w' ⟨rfl, ⟨nd, rfl⟩⟩; (try first | exact ⟨rfl, _, World.drewN_drewN _ _ _⟩ | exact ⟨rfl, _, Eq.trans (World.drewN_drewN _ _ _) (congrArg (World.drewN _) (Nat.add_assoc _ _ _))⟩))))
   go_loopg [3] k (fun kq v3 w' => ∃ (x3_1 : Int), v3 = .int .i64 x3_1 ∧ Aside0 (spec_l2Order.l0 kq l0 x3_1 = some r) ∧ Aside0 (kq ≤ k) ∧ Drawn0 w w')
   case atStart => exact ⟨(0), (by first | rfl | (simp; done) | (simp [*]; done)), H', ⟨Nat.le_refl _⟩, by repeat (first | exact Drawn0.refl _ | apply Drawn0.step)⟩
   case round =>
    clear H'
    try clear c1
    try clear p2
    try clear c3
    obtain ⟨x3_1, rfl, HA, HK1, ⟨m1, rfl⟩⟩ := hrel
    cases gk with
    | zero => exact absurd HA.out (by simp [spec_l2Order.l0])
    | succ k1 =>
     have H := HA.out
     clear HA
     simp only [spec_l2Order.l0] at H
     by_cases c4 : x3_1 < (l0.length : Int)
     · rw [if_pos c4] at H
       have c4b0 : decide (x3_1 < (l0.length : Int)) = true := decide_eq_true c4
       clear c4
       by_cases c5 : 0 ≤ x3_1
       · rw [if_pos c5] at H
         have c5b0 : decide (0 ≤ x3_1) = true := decide_eq_true c5
         clear c5
         replace H := Option.bind_eq_some_iff.mp H
         obtain ⟨t104, A60, H⟩ := H
         try dsimp only at H
         have A6 := zk A60
         clear A60
         by_cases c7 : t104 = true
         · subst c7
           have H1 : (if x3_1 ≤ (l0.length : Int) then ((spec_l1Has.f k1 (l0.take (x3_1 : Int).toNat) (rd l0 x3_1)).bind fun t110 => (if t110 = true then (some false) else (spec_l2Order.l0 k1 l0 (wrap64 (x3_1 + 1))))) else (none)) = some r := by rw [if_pos rfl] at H; exact H
           clear H
           have H := H1
           clear H1
           have c8b0 := eq_true (zo (by assumption) : 0 ≤ x3_1)
           by_cases c9 : x3_1 ≤ (l0.length : Int)
           · rw [if_pos c9] at H
             have c9b0 := eq_true c9
             have c9b1 : decide (x3_1 ≤ (l0.length : Int)) = true := decide_eq_true c9
             clear c9
             obtain ⟨y105, hy105⟩ : ∃ y_ : List Int, y_ = (l0.take (x3_1 : Int).toNat) := ⟨_, rfl⟩
             replace H : ((spec_l1Has.f k1 y105 (rd l0 x3_1)).bind fun t110 => (if t110 = true then (some false) else (spec_l2Order.l0 k1 l0 (wrap64 (x3_1 + 1))))) = some r := by first | (rw [hy105]; with_reducible exact H) | (have H2_ := (Option.bind_some _ _).symm.trans H; rw [hy105]; with_reducible exact H2_) | (have H2_ := (Option.bind_some _ _).symm.trans H; with_reducible exact H2_) | with_reducible exact H | (rw [hy105]; exact H) | exact H
             have Ny105 := zk hy105
             clear hy105
             replace H := Option.bind_eq_some_iff.mp H
             obtain ⟨t110, A100, H⟩ := H
             try dsimp only at H
             have A10 := zk A100
             clear A100
             by_cases c11 : t110 = true
             · subst c11
               have H1 : (some false) = some r := by rw [if_pos rfl] at H; exact H
               clear H
               have H := H1
               clear H1
               obtain rfl := Option.some.inj H
               have p103 : 0 ≤ (x3_1 : Int) := zo (by assumption)
               have q103 : x3_1 < (l0.length : Int) := zo (by assumption)
               obtain ⟨ad103, e103, hx103_0⟩ := Kd.at_int HR0.out x3_1 p103 q103
               cases e103
               replace p103 := eq_true p103
               replace q103 := eq_true q103
               go_wp2_with (first | (go_at_call 154; (with_reducible refine (spec_l1In.calls (rd l0 x3_1) 1 (l0.length : Int) true _ A6.out).mono ?_); rintro e w' ⟨rfl, ⟨nd, rfl⟩⟩; (try first | exact ⟨rfl, _, World.drewN_drewN _ _ _⟩ | exact ⟨rfl, _, Eq.trans (World.drewN_drewN _ _ _) (congrArg (World.drewN _) (Nat.add_assoc _ _ _))⟩); have q12 : (x3_1 : Int) ≤ ((l0.length : Int) : Int) := zo (by assumption); obtain ⟨i012, hi012, _, hsz12, _⟩ := info_parts info3; have hroom12 : l0.length ≤ c0 := HC0.out; have hC12 : Kd.C (Kd.int .i64) _ (some ad103) l0.length l0 := HR0.out; have hcut12 := cut_to (P := Try.prog) 22 3 .i64 Try.underlying22 hi012 (some ad103) l0.length c0 x3_1 (zo (by assumption)) q12 hroom12; have hr12 := Kd.C_take (m := (x3_1 : Int).toNat) hC12 (by omega); have hy12 : y105.length = (x3_1 : Int).toNat := (by rw [Ny105.out, List.length_take]; omega); rw [← Ny105.out] at hr12; rw [← hy12] at hcut12; have HR108 := zk hr12; have HC108 := zk (show y105.length ≤ c0 from by omega); clear hr12 hC12 hroom12 hi012 hsz12; have KY12 := zk hy12; clear hy12; replace q12 := eq_true q12; have p109 : 0 ≤ (x3_1 : Int) := zo (by assumption); have q109 : x3_1 < (l0.length : Int) := zo (by assumption); obtain ⟨ad109, e109, hx109_0⟩ := Kd.at_int HR0.out x3_1 p109 q109; obtain rfl : ad103 = ad109 := (by injection e109); replace p109 := eq_true p109; replace q109 := eq_true q109) | (go_at_call 244; (with_reducible refine (spec_l1Has.calls k1 _ _ y105 (rd l0 x3_1) true _ ?side1 ?side2 A10.out).mono ?_); (case side1 => repeat (first | exact HR108.out | (with_reducible refine zv ?_ _) | (with_reducible refine zu ?_ _) | (with_reducible refine zw ?_))); (case side2 => exact HC108.out); rintro e w' ⟨rfl, ⟨nd, rfl⟩⟩; (try first | exact ⟨rfl, _, World.drewN_drewN _ _ _⟩ | exact ⟨rfl, _, Eq.trans (World.drewN_drewN _ _ _) (congrArg (World.drewN _) (Nat.add_assoc _ _ _))⟩)))
               repeat (go_quiet (first | (go_at_call 154; (with_reducible refine (spec_l1In.calls (rd l0 x3_1) 1 (l0.length : Int) true _ A6.out).mono ?_); rintro e w' ⟨rfl, ⟨nd, rfl⟩⟩; (try first | exact ⟨rfl, _, World.drewN_drewN _ _ _⟩ | exact ⟨rfl, _, Eq.trans (World.drewN_drewN _ _ _) (congrArg (World.drewN _) (Nat.add_assoc _ _ _))⟩); have q12 : (x3_1 : Int) ≤ ((l0.length : Int) : Int) := zo (by assumption); obtain ⟨i012, hi012, _, hsz12, _⟩ := info_parts info3; have hroom12 : l0.length ≤ c0 := HC0.out; have hC12 : Kd.C (Kd.int .i64) _ (some ad103) l0.length l0 := HR0.out; have hcut12 := cut_to (P := Try.prog) 22 3 .i64 Try.underlying22 hi012 (some ad103) l0.length c0 x3_1 (zo (by assumption)) q12 hroom12; have hr12 := Kd.C_take (m := (x3_1 : Int).toNat) hC12 (by omega); have hy12 : y105.length = (x3_1 : Int).toNat := (by rw [Ny105.out, List.length_take]; omega); rw [← Ny105.out] at hr12; rw [← hy12] at hcut12; have HR108 := zk hr12; have HC108 := zk (show y105.length ≤ c0 from by omega); clear hr12 hC12 hroom12 hi012 hsz12; have KY12 := zk hy12; clear hy12; replace q12 := eq_true q12; have p109 : 0 ≤ (x3_1 : Int) := zo (by assumption); have q109 : x3_1 < (l0.length : Int) := zo (by assumption); obtain ⟨ad109, e109, hx109_0⟩ := Kd.at_int HR0.out x3_1 p109 q109; obtain rfl : ad103 = ad109 := (by injection e109); replace p109 := eq_true p109; replace q109 := eq_true q109) | (go_at_call 244; (with_reducible refine (spec_l1Has.calls k1 _ _ y105 (rd l0 x3_1) true _ ?side1 ?side2 A10.out).mono ?_); (case side1 => repeat (first | exact HR108.out | (with_reducible refine zv ?_ _) | (with_reducible refine zu ?_ _) | (with_reducible refine zw ?_))); (case side2 => exact HC108.out); rintro e w' ⟨rfl, ⟨nd, rfl⟩⟩; (try first | exact ⟨rfl, _, World.drewN_drewN _ _ _⟩ | exact ⟨rfl, _, Eq.trans (World.drewN_drewN _ _ _) (congrArg (World.drewN _) (Nat.add_assoc _ _ _))⟩))); try go_wp2_with (first | (go_at_call 154; (with_reducible refine (spec_l1In.calls (rd l0 x3_1) 1 (l0.length : Int) true _ A6.out).mono ?_); rintro e w' ⟨rfl, ⟨nd, rfl⟩⟩; (try first | exact ⟨rfl, _, World.drewN_drewN _ _ _⟩ | exact ⟨rfl, _, Eq.trans (World.drewN_drewN _ _ _) (congrArg (World.drewN _) (Nat.add_assoc _ _ _))⟩); have q12 : (x3_1 : Int) ≤ ((l0.length : Int) : Int) := zo (by assumption); obtain ⟨i012, hi012, _, hsz12, _⟩ := info_parts info3; have hroom12 : l0.length ≤ c0 := HC0.out; have hC12 : Kd.C (Kd.int .i64) _ (some ad103) l0.length l0 := HR0.out; have hcut12 := cut_to (P := Try.prog) 22 3 .i64 Try.underlying22 hi012 (some ad103) l0.length c0 x3_1 (zo (by assumption)) q12 hroom12; have hr12 := Kd.C_take (m := (x3_1 : Int).toNat) hC12 (by omega); have hy12 : y105.length = (x3_1 : Int).toNat := (by rw [Ny105.out, List.length_take]; omega); rw [← Ny105.out] at hr12; rw [← hy12] at hcut12; have HR108 := zk hr12; have HC108 := zk (show y105.length ≤ c0 from by omega); clear hr12 hC12 hroom12 hi012 hsz12; have KY12 := zk hy12; clear hy12; replace q12 := eq_true q12; have p109 : 0 ≤ (x3_1 : Int) := zo (by assumption); have q109 : x3_1 < (l0.length : Int) := zo (by assumption); obtain ⟨ad109, e109, hx109_0⟩ := Kd.at_int HR0.out x3_1 p109 q109; obtain rfl : ad103 = ad109 := (by injection e109); replace p109 := eq_true p109; replace q109 := eq_true q109) | (go_at_call 244; (with_reducible refine (spec_l1Has.calls k1 _ _ y105 (rd l0 x3_1) true _ ?side1 ?side2 A10.out).mono ?_); (case side1 => repeat (first | exact HR108.out | (with_reducible refine zv ?_ _) | (with_reducible refine zu ?_ _) | (with_reducible refine zw ?_))); (case side2 => exact HC108.out); rintro e w' ⟨rfl, ⟨nd, rfl⟩⟩; (try first | exact ⟨rfl, _, World.drewN_drewN _ _ _⟩ | exact ⟨rfl, _, Eq.trans (World.drewN_drewN _ _ _) (congrArg (World.drewN _) (Nat.add_assoc _ _ _))⟩))))
               go_ret
               exact ⟨by first | rfl | (simp; done) | (simp [*]; done), by repeat (first | exact Drawn0.refl _ | apply Drawn0.step)⟩
             · replace c11 := Bool.eq_false_iff.mpr c11
               subst c11
               have H1 : (spec_l2Order.l0 k1 l0 (wrap64 (x3_1 + 1))) = some r := by rw [if_neg (show ¬ (false = true) by decide)] at H; exact H
               clear H
               have H := H1
               clear H1
               have H' := zk H
               clear H
               have p103 : 0 ≤ (x3_1 : Int) := zo (by assumption)
               have q103 : x3_1 < (l0.length : Int) := zo (by assumption)
               obtain ⟨ad103, e103, hx103_0⟩ := Kd.at_int HR0.out x3_1 p103 q103
               cases e103
               replace p103 := eq_true p103
               replace q103 := eq_true q103
               go_wp2_with (first | (go_at_call 154; (with_reducible refine (spec_l1In.calls (rd l0 x3_1) 1 (l0.length : Int) true _ A6.out).mono ?_); rintro e w' ⟨rfl, ⟨nd, rfl⟩⟩; (try first | exact ⟨rfl, _, World.drewN_drewN _ _ _⟩ | exact ⟨rfl, _, Eq.trans (World.drewN_drewN _ _ _) (congrArg (World.drewN _) (Nat.add_assoc _ _ _))⟩); have q13 : (x3_1 : Int) ≤ ((l0.length : Int) : Int) := zo (by assumption); obtain ⟨i013, hi013, _, hsz13, _⟩ := info_parts info3; have hroom13 : l0.length ≤ c0 := HC0.out; have hC13 : Kd.C (Kd.int .i64) _ (some ad103) l0.length l0 := HR0.out; have hcut13 := cut_to (P := Try.prog) 22 3 .i64 Try.underlying22 hi013 (some ad103) l0.length c0 x3_1 (zo (by assumption)) q13 hroom13; have hr13 := Kd.C_take (m := (x3_1 : Int).toNat) hC13 (by omega); have hy13 : y105.length = (x3_1 : Int).toNat := (by rw [Ny105.out, List.length_take]; omega); rw [← Ny105.out] at hr13; rw [← hy13] at hcut13; have HR108 := zk hr13; have HC108 := zk (show y105.length ≤ c0 from by omega); clear hr13 hC13 hroom13 hi013 hsz13; have KY13 := zk hy13; clear hy13; replace q13 := eq_true q13; have p109 : 0 ≤ (x3_1 : Int) := zo (by assumption); have q109 : x3_1 < (l0.length : Int) := zo (by assumption); obtain ⟨ad109, e109, hx109_0⟩ := Kd.at_int HR0.out x3_1 p109 q109; obtain rfl : ad103 = ad109 := (by injection e109); replace p109 := eq_true p109; replace q109 := eq_true q109) | (go_at_call 244; (with_reducible refine (spec_l1Has.calls k1 _ _ y105 (rd l0 x3_1) false _ ?side1 ?side2 A10.out).mono ?_); (case side1 => repeat (first | exact HR108.out | (with_reducible refine zv ?_ _) | (with_reducible refine zu ?_ _) | (with_reducible refine zw ?_))); (case side2 => exact HC108.out); rintro e w' ⟨rfl, ⟨nd, rfl⟩⟩; (try first | exact ⟨rfl, _, World.drewN_drewN _ _ _⟩ | exact ⟨rfl, _, Eq.trans (World.drewN_drewN _ _ _) (congrArg (World.drewN _) (Nat.add_assoc _ _ _))⟩)))
               repeat (go_quiet (first | (go_at_call 154; (with_reducible refine (spec_l1In.calls (rd l0 x3_1) 1 (l0.length : Int) true _ A6.out).mono ?_); rintro e w' ⟨rfl, ⟨nd, rfl⟩⟩; (try first | exact ⟨rfl, _, World.drewN_drewN _ _ _⟩ | exact ⟨rfl, _, Eq.trans (World.drewN_drewN _ _ _) (congrArg (World.drewN _) (Nat.add_assoc _ _ _))⟩); have q13 : (x3_1 : Int) ≤ ((l0.length : Int) : Int) := zo (by assumption); obtain ⟨i013, hi013, _, hsz13, _⟩ := info_parts info3; have hroom13 : l0.length ≤ c0 := HC0.out; have hC13 : Kd.C (Kd.int .i64) _ (some ad103) l0.length l0 := HR0.out; have hcut13 := cut_to (P := Try.prog) 22 3 .i64 Try.underlying22 hi013 (some ad103) l0.length c0 x3_1 (zo (by assumption)) q13 hroom13; have hr13 := Kd.C_take (m := (x3_1 : Int).toNat) hC13 (by omega); have hy13 : y105.length = (x3_1 : Int).toNat := (by rw [Ny105.out, List.length_take]; omega); rw [← Ny105.out] at hr13; rw [← hy13] at hcut13; have HR108 := zk hr13; have HC108 := zk (show y105.length ≤ c0 from by omega); clear hr13 hC13 hroom13 hi013 hsz13; have KY13 := zk hy13; clear hy13; replace q13 := eq_true q13; have p109 : 0 ≤ (x3_1 : Int) := zo (by assumption); have q109 : x3_1 < (l0.length : Int) := zo (by assumption); obtain ⟨ad109, e109, hx109_0⟩ := Kd.at_int HR0.out x3_1 p109 q109; obtain rfl : ad103 = ad109 := (by injection e109); replace p109 := eq_true p109; replace q109 := eq_true q109) | (go_at_call 244; (with_reducible refine (spec_l1Has.calls k1 _ _ y105 (rd l0 x3_1) false _ ?side1 ?side2 A10.out).mono ?_); (case side1 => repeat (first | exact HR108.out | (with_reducible refine zv ?_ _) | (with_reducible refine zu ?_ _) | (with_reducible refine zw ?_))); (case side2 => exact HC108.out); rintro e w' ⟨rfl, ⟨nd, rfl⟩⟩; (try first | exact ⟨rfl, _, World.drewN_drewN _ _ _⟩ | exact ⟨rfl, _, Eq.trans (World.drewN_drewN _ _ _) (congrArg (World.drewN _) (Nat.add_assoc _ _ _))⟩))); try go_wp2_with (first | (go_at_call 154; (with_reducible refine (spec_l1In.calls (rd l0 x3_1) 1 (l0.length : Int) true _ A6.out).mono ?_); rintro e w' ⟨rfl, ⟨nd, rfl⟩⟩; (try first | exact ⟨rfl, _, World.drewN_drewN _ _ _⟩ | exact ⟨rfl, _, Eq.trans (World.drewN_drewN _ _ _) (congrArg (World.drewN _) (Nat.add_assoc _ _ _))⟩); have q13 : (x3_1 : Int) ≤ ((l0.length : Int) : Int) := zo (by assumption); obtain ⟨i013, hi013, _, hsz13, _⟩ := info_parts info3; have hroom13 : l0.length ≤ c0 := HC0.out; have hC13 : Kd.C (Kd.int .i64) _ (some ad103) l0.length l0 := HR0.out; have hcut13 := cut_to (P := Try.prog) 22 3 .i64 Try.underlying22 hi013 (some ad103) l0.length c0 x3_1 (zo (by assumption)) q13 hroom13; have hr13 := Kd.C_take (m := (x3_1 : Int).toNat) hC13 (by omega); have hy13 : y105.length = (x3_1 : Int).toNat := (by rw [Ny105.out, List.length_take]; omega); rw [← Ny105.out] at hr13; rw [← hy13] at hcut13; have HR108 := zk hr13; have HC108 := zk (show y105.length ≤ c0 from by omega); clear hr13 hC13 hroom13 hi013 hsz13; have KY13 := zk hy13; clear hy13; replace q13 := eq_true q13; have p109 : 0 ≤ (x3_1 : Int) := zo (by assumption); have q109 : x3_1 < (l0.length : Int) := zo (by assumption); obtain ⟨ad109, e109, hx109_0⟩ := Kd.at_int HR0.out x3_1 p109 q109; obtain rfl : ad103 = ad109 := (by injection e109); replace p109 := eq_true p109; replace q109 := eq_true q109) | (go_at_call 244; (with_reducible refine (spec_l1Has.calls k1 _ _ y105 (rd l0 x3_1) false _ ?side1 ?side2 A10.out).mono ?_); (case side1 => repeat (first | exact HR108.out | (with_reducible refine zv ?_ _) | (with_reducible refine zu ?_ _) | (with_reducible refine zw ?_))); (case side2 => exact HC108.out); rintro e w' ⟨rfl, ⟨nd, rfl⟩⟩; (try first | exact ⟨rfl, _, World.drewN_drewN _ _ _⟩ | exact ⟨rfl, _, Eq.trans (World.drewN_drewN _ _ _) (congrArg (World.drewN _) (Nat.add_assoc _ _ _))⟩))))
               go_roundg k1
               case measure => have := HK1.out; omega
               case rel => exact ⟨(wrap64 (x3_1 + 1)), (by first | rfl | (simp; done) | (simp [*]; done)), H', ⟨by have := HK1.out; omega⟩, by repeat (first | exact Drawn0.refl _ | apply Drawn0.step)⟩
           · rw [if_neg c9] at H
             exact absurd H (by simp)
         · replace c7 := Bool.eq_false_iff.mpr c7
           subst c7
           have H1 : (some false) = some r := by rw [if_neg (show ¬ (false = true) by decide)] at H; exact H
           clear H
           have H := H1
           clear H1
           obtain rfl := Option.some.inj H
           have p103 : 0 ≤ (x3_1 : Int) := zo (by assumption)
           have q103 : x3_1 < (l0.length : Int) := zo (by assumption)
           obtain ⟨ad103, e103, hx103_0⟩ := Kd.at_int HR0.out x3_1 p103 q103
           cases e103
           replace p103 := eq_true p103
           replace q103 := eq_true q103
           go_wp2_with (first | (go_at_call 154; (with_reducible refine (spec_l1In.calls (rd l0 x3_1) 1 (l0.length : Int) false _ A6.out).mono ?_); rintro e w' ⟨rfl, ⟨nd, rfl⟩⟩; (try first | exact ⟨rfl, _, World.drewN_drewN _ _ _⟩ | exact ⟨rfl, _, Eq.trans (World.drewN_drewN _ _ _) (congrArg (World.drewN _) (Nat.add_assoc _ _ _))⟩)))
           repeat (go_quiet (first | (go_at_call 154; (with_reducible refine (spec_l1In.calls (rd l0 x3_1) 1 (l0.length : Int) false _ A6.out).mono ?_); rintro e w' ⟨rfl, ⟨nd, rfl⟩⟩; (try first | exact ⟨rfl, _, World.drewN_drewN _ _ _⟩ | exact ⟨rfl, _, Eq.trans (World.drewN_drewN _ _ _) (congrArg (World.drewN _) (Nat.add_assoc _ _ _))⟩))); try go_wp2_with (first | (go_at_call 154; (with_reducible refine (spec_l1In.calls (rd l0 x3_1) 1 (l0.length : Int) false _ A6.out).mono ?_); rintro e w' ⟨rfl, ⟨nd, rfl⟩⟩; (try first | exact ⟨rfl, _, World.drewN_drewN _ _ _⟩ | exact ⟨rfl, _, Eq.trans (World.drewN_drewN _ _ _) (congrArg (World.drewN _) (Nat.add_assoc _ _ _))⟩))))
           go_ret
           exact ⟨by first | rfl | (simp; done) | (simp [*]; done), by repeat (first | exact Drawn0.refl _ | apply Drawn0.step)⟩
       · rw [if_neg c5] at H
         exact absurd H (by simp)
     · rw [if_neg c4] at H
       have c4b0 : decide (x3_1 < (l0.length : Int)) = false := decide_eq_false c4
       clear c4
       obtain rfl := Option.some.inj H
       go_wp2
       repeat (go_quiet (fail); try go_wp2)
       go_ret
       exact ⟨by first | rfl | (simp; done) | (simp [*]; done), by repeat (first | exact Drawn0.refl _ | apply Drawn0.step)⟩
 · replace c3 := Bool.eq_false_iff.mpr c3
   subst c3
   have H1 : (some false) = some r := by rw [if_neg (show ¬ (false = true) by decide)] at H; exact H
   clear H
   have H := H1
   clear H1
   obtain rfl := Option.some.inj H
   go_enter Try.func142, Try.ntmps142
   go_wp2_with (first | (go_at_call 154; (with_reducible refine (spec_l1In.calls (l0.length : Int) 1 7 false _ A2.out).mono ?_); rintro e w' ⟨rfl, ⟨nd, rfl⟩⟩; (try first | exact ⟨rfl, _, World.drewN_drewN _ _ _⟩ | exact ⟨rfl, _, Eq.trans (World.drewN_drewN _ _ _) (congrArg (World.drewN _) (Nat.add_assoc _ _ _))⟩)))
   repeat (go_quiet (first | (go_at_call 154; (with_reducible refine (spec_l1In.calls (l0.length : Int) 1 7 false _ A2.out).mono ?_); rintro e w' ⟨rfl, ⟨nd, rfl⟩⟩; (try first | exact ⟨rfl, _, World.drewN_drewN _ _ _⟩ | exact ⟨rfl, _, Eq.trans (World.drewN_drewN _ _ _) (congrArg (World.drewN _) (Nat.add_assoc _ _ _))⟩))); try go_wp2_with (first | (go_at_call 154; (with_reducible refine (spec_l1In.calls (l0.length : Int) 1 7 false _ A2.out).mono ?_); rintro e w' ⟨rfl, ⟨nd, rfl⟩⟩; (try first | exact ⟨rfl, _, World.drewN_drewN _ _ _⟩ | exact ⟨rfl, _, Eq.trans (World.drewN_drewN _ _ _) (congrArg (World.drewN _) (Nat.add_assoc _ _ _))⟩))))
   go_ret
   exact ⟨by first | rfl | (simp; done) | (simp [*]; done), by repeat (first | exact Drawn0.refl _ | apply Drawn0.step)⟩

/-! ### spec_BadTriple: function 24 -/
section
open Go.Proofs.Ytlkddcabjcejdaa.Base
def btJ (l : List Int) (i k : Int) : Nat → Int → Option Int
 | 0, _ => none
 | r + 1, j => if rd l j < rd l i ∧ rd l i < rd l k then some j else btJ l i k r (j + 1)
def btK (l : List Int) (i : Int) : Nat → Int → Option (Int × Int)
 | 0, _ => none
 | r + 1, k => match btJ l i k r (k + 1) with
  | some j => some (k, j)
  | none => btK l i r (k + 1)
def btI (l : List Int) : Nat → Int → Option (Int × Int × Int)
 | 0, _ => none
 | r + 1, i => match btK l i r (i + 1) with
  | some p => some (i, p.1, p.2)
  | none => btI l r (i + 1)
def btOut (o : Option (Int × Int × Int)) : (Int × Int × Int) × Bool := match o with
 | some p => (p, true)
 | none => ((0, 0, 0), false)
def afterK (l : List Int) (r : Nat) (i : Int) (o : Option (Int × Int)) : Option (Int × Int × Int) := match o with
 | some p => some (i, p.1, p.2)
 | none => btI l r (i + 1)
def afterJ (l : List Int) (r rk : Nat) (i k : Int) (o : Option Int) : Option (Int × Int × Int) := match o with
 | some j => some (i, k, j)
 | none => afterK l r i (btK l i rk (k + 1))
theorem btI_succ (l : List Int) (r : Nat) (i : Int) : btI l (r + 1) i = afterK l r i (btK l i r (i + 1)) := rfl
theorem afterK_succ (l : List Int) (r rk : Nat) (i k : Int) : afterK l r i (btK l i (rk + 1) k) = afterJ l r rk i k (btJ l i k rk (k + 1)) := by
 simp only [btK, afterJ]
 cases btJ l i k rk (k + 1) <;> rfl
theorem afterJ_succ (l : List Int) (r rk rj : Nat) (i k j : Int) : afterJ l r rk i k (btJ l i k (rj + 1) j) = if rd l j < rd l i ∧ rd l i < rd l k then some (i, k, j) else afterJ l r rk i k (btJ l i k rj (j + 1)) := by
 simp only [btJ]
 by_cases h : rd l j < rd l i ∧ rd l i < rd l k
 · rw [if_pos h, if_pos h]; rfl
 · rw [if_neg h, if_neg h]
set_option maxHeartbeats 8000000 in
set_option maxRecDepth 100000 in
theorem badspec_calls (k : Nat) (A0 : Option Addr) (c0 : Nat) (l0 : List Int) (b : Bool) (w : World) (hr0 : Kd.C (Kd.int .i64) w A0 l0.length l0) (hc0 : l0.length ≤ c0) (hl7 : l0.length ≤ 1048576) (ho : spec_l2Order.f k l0 = some b) (R : Option (Int × Int × Int)) (hR : b = true → btI l0 l0.length 0 = R) (hN : b = false → R = none) :
 Calls Try.prog 24 #[.slice A0 l0.length c0] w fun e w' => e = .returned (.tuple #[.agg #[.int .i64 (btOut R).1.1, .int .i64 (btOut R).1.2.1, .int .i64 (btOut R).1.2.2], .bool (btOut R).2]) ∧ Below w.heap.size w w' := by
 have HR0 := zk hr0
 have HO := zk ho
 have HB := zk (za (Below.refl w.heap.size w) (Obj.cells #[.int .i64 0, .int .i64 0, .int .i64 0] 34))
 have HL7 := zk hl7
 clear hr0 ho hl7
 cases b with
 | false =>
  obtain rfl := hN rfl
  clear hR hN
  go_enter Try.func24, Try.ntmps24
  go_wp2_with (go_at_call 142; refine (spec_l2Order.calls k A0 c0 l0 false _ (Kd.C_below HR0.out HB.out) hc0 HO.out).mono ?_; rintro e_ w2 ⟨rfl, hd⟩; have HB2 := zk (below_step HB.out hd.below); have HK := zk (blk_below (blk_new w (Obj.cells #[.int .i64 0, .int .i64 0, .int .i64 0] 34)) hd.below); clear hd; have cb0 := blk_cell HK.out 0; have cb1 := blk_cell HK.out 1; have cb2 := blk_cell HK.out 2; have fb0 := blk_frozen HK.out 0; have fb1 := blk_frozen HK.out 1; have fb2 := blk_frozen HK.out 2)
  have HK3 := blk_set (blk_set (blk_set HK.out 0 (.int .i64 0)) 1 (.int .i64 0)) 2 (.int .i64 0)
  refine bodyPost_ret (results_ct rfl _ _ w.heap.size 34 #[.int .i64 0, .int .i64 0, .int .i64 0] (0, 0) _ rfl HK3 Try.underlying34 rfl (by kernel_rfl)) rfl ⟨?_, below_set (below_set (below_set HB2.out (Nat.le_refl _)) (Nat.le_refl _)) (Nat.le_refl _)⟩
  rfl
 | true =>
  have HP := zk (hR rfl)
  clear hR hN
  go_enter Try.func24, Try.ntmps24
  go_wp2_with (go_at_call 142; refine (spec_l2Order.calls k A0 c0 l0 true _ (Kd.C_below HR0.out HB.out) hc0 HO.out).mono ?_; rintro e_ w2 ⟨rfl, hd⟩; have HB2 := zk (below_step HB.out hd.below); have HK := zk (blk_below (blk_new w (Obj.cells #[.int .i64 0, .int .i64 0, .int .i64 0] 34)) hd.below); clear hd)
  go_loopg [4] l0.length (fun kq v4 wr => ∃ (r : Nat) (i : Int), v4 = .int .i64 i ∧ kq = r ∧ Aside0 (i + (r : Int) = (l0.length : Int)) ∧ Aside0 (0 ≤ i) ∧ Aside0 (btI l0 r i = R) ∧ Aside0 (wr.heap[w.heap.size]? = some (.cells #[.int .i64 0, .int .i64 0, .int .i64 0] 34 (0, 0))) ∧ Aside0 (Below w.heap.size w wr))
  case atStart => exact ⟨l0.length, 0, rfl, rfl, ⟨by omega⟩, ⟨Int.le_refl _⟩, HP, HK, HB2⟩
  case round =>
   clear HP HK HB2 HB
   obtain ⟨r, i, rfl, hkq, HI, HI0, HP, HK, HB⟩ := hrel
   obtain rfl : r = gk := hkq.symm
   have hi := HI.out
   have hi0 := HI0.out
   have hl7 := HL7.out
   cases r with
   | zero =>
    have hg : ¬ (i < (l0.length : Int)) := by omega
    have hgb : decide (i < (l0.length : Int)) = false := decide_eq_false hg
    have e := HP.out
    simp only [btI] at e
    subst e
    have cb0 := blk_cell HK.out 0; have cb1 := blk_cell HK.out 1; have cb2 := blk_cell HK.out 2; have fb0 := blk_frozen HK.out 0; have fb1 := blk_frozen HK.out 1; have fb2 := blk_frozen HK.out 2
    clear hi
    go_wp2
    have HK3 := blk_set (blk_set (blk_set HK.out 0 (.int .i64 0)) 1 (.int .i64 0)) 2 (.int .i64 0)
    refine bodyPost_ret (results_ct rfl _ _ w.heap.size 34 #[.int .i64 0, .int .i64 0, .int .i64 0] (0, 0) _ rfl HK3 Try.underlying34 rfl (by kernel_rfl)) rfl ⟨?_, below_set (below_set (below_set HB.out (Nat.le_refl _)) (Nat.le_refl _)) (Nat.le_refl _)⟩
    rfl
   | succ r =>
    have hg : i < (l0.length : Int) := by omega
    have hgb : decide (i < (l0.length : Int)) = true := decide_eq_true hg
    have HP2 := zk ((btI_succ l0 r i).symm.trans HP.out)
    have HIL := zk (show i + 1 + (r : Int) = (l0.length : Int) by omega)
    have hib : i ≤ 1048576 := by omega
    clear hi HP hg
    go_wp2
    go_loopg [5] r (fun kq v5 wr => ∃ (rk : Nat) (k_ : Int), v5 = .int .i64 k_ ∧ kq = rk ∧ Aside0 (k_ + (rk : Int) = (l0.length : Int)) ∧ Aside0 (i < k_) ∧ Aside0 (afterK l0 r i (btK l0 i rk k_) = R) ∧ Aside0 (wr.heap[w.heap.size]? = some (.cells #[.int .i64 0, .int .i64 0, .int .i64 0] 34 (0, 0))) ∧ Aside0 (Below w.heap.size w wr))
    case atStart => exact ⟨r, i + 1, by simp [wrap64], rfl, HIL, ⟨by omega⟩, HP2, HK, HB⟩
    case round =>
     clear HP2 HK HB
     obtain ⟨rk, k_, rfl, hkq2, HKL, HIK, HP, HK, HB⟩ := hrel
     obtain rfl : rk = gk := hkq2.symm
     have hk := HKL.out
     have hik := HIK.out
     cases rk with
     | zero =>
      have hg2 : ¬ (k_ < (l0.length : Int)) := by omega
      have hg2b : decide (k_ < (l0.length : Int)) = false := decide_eq_false hg2
      clear hk
      go_wp2
      go_roundg r
      case measure => simp
      case rel => exact ⟨r, i + 1, by simp [wrap64], rfl, HIL, ⟨by omega⟩, HP, HK, HB⟩
     | succ rk =>
      have hg2 : k_ < (l0.length : Int) := by omega
      have hg2b : decide (k_ < (l0.length : Int)) = true := decide_eq_true hg2
      have HP2 := zk ((afterK_succ l0 r rk i k_).symm.trans HP.out)
      have HKL2 := zk (show k_ + 1 + (rk : Int) = (l0.length : Int) by omega)
      have hkb : k_ ≤ 1048576 := by omega
      have hkb0 : 0 ≤ k_ := by omega
      clear hk HP hg2
      go_wp2
      go_loopg [6] rk (fun kq v6 wr => ∃ (rj : Nat) (j : Int), v6 = .int .i64 j ∧ kq = rj ∧ Aside0 (j + (rj : Int) = (l0.length : Int)) ∧ Aside0 (k_ < j) ∧ Aside0 (afterJ l0 r rk i k_ (btJ l0 i k_ rj j) = R) ∧ Aside0 (wr.heap[w.heap.size]? = some (.cells #[.int .i64 0, .int .i64 0, .int .i64 0] 34 (0, 0))) ∧ Aside0 (Below w.heap.size w wr))
      case atStart => exact ⟨rk, k_ + 1, by simp [wrap64], rfl, HKL2, ⟨by omega⟩, HP2, HK, HB⟩
      case round =>
       clear HP2 HK HB
       obtain ⟨rj, j, rfl, hkq3, HJL, HKJ, HP, HK, HB⟩ := hrel
       obtain rfl : rj = gk := hkq3.symm
       have hj := HJL.out
       have hkj := HKJ.out
       cases rj with
       | zero =>
        have hg3 : ¬ (j < (l0.length : Int)) := by omega
        have hg3b : decide (j < (l0.length : Int)) = false := decide_eq_false hg3
        clear hj
        go_wp2
        go_roundg rk
        case measure => simp
        case rel => exact ⟨rk, k_ + 1, by simp [wrap64], rfl, HKL2, ⟨by omega⟩, HP, HK, HB⟩
       | succ rj =>
        have hg3 : j < (l0.length : Int) := by omega
        have hg3b : decide (j < (l0.length : Int)) = true := decide_eq_true hg3
        have HP2 := zk ((afterJ_succ l0 r rk rj i k_ j).symm.trans HP.out)
        have HJL2 := zk (show j + 1 + (rj : Int) = (l0.length : Int) by omega)
        have hjb : j ≤ 1048576 := by omega
        have hjb0 : 0 ≤ j := by omega
        have hil : i < (l0.length : Int) := by omega
        have hkl : k_ < (l0.length : Int) := by omega
        obtain ⟨adi, ei, hxi⟩ := Kd.at_int HR0.out i (by omega) (by omega)
        cases ei
        replace hxi := (HB.out.cell (World.block_lt_of_cell? w _ hxi)).trans hxi
        obtain ⟨adk, ek, hxk⟩ := Kd.at_int HR0.out k_ (by omega) (by omega)
        cases ek
        replace hxk := (HB.out.cell (World.block_lt_of_cell? w _ hxk)).trans hxk
        obtain ⟨adj, ej, hxj⟩ := Kd.at_int HR0.out j (by omega) (by omega)
        cases ej
        replace hxj := (HB.out.cell (World.block_lt_of_cell? w _ hxj)).trans hxj
        obtain ⟨vi, hvi⟩ : ∃ v, rd l0 i = v := ⟨_, rfl⟩
        obtain ⟨vk, hvk⟩ : ∃ v, rd l0 k_ = v := ⟨_, rfl⟩
        obtain ⟨vj, hvj⟩ : ∃ v, rd l0 j = v := ⟨_, rfl⟩
        rw [hvi] at hxi
        rw [hvk] at hxk
        rw [hvj] at hxj
        have HP3 := zk (by have := HP2.out; rwa [hvi, hvj, hvk] at this)
        clear hj HP HP2 hvi hvk hvj
        by_cases h1 : vj < vi
        · have h1b : decide (vj < vi) = true := decide_eq_true h1
          by_cases h2 : vi < vk
          · have h2b : decide (vi < vk) = true := decide_eq_true h2
            have e := HP3.out
            rw [if_pos ⟨h1, h2⟩] at e
            subst e
            clear HP3
            go_wp2
            go_quiet (fail)
            have cb0 := blk_cell HK.out 0; have cb1 := blk_cell HK.out 1; have cb2 := blk_cell HK.out 2; have fb0 := blk_frozen HK.out 0; have fb1 := blk_frozen HK.out 1; have fb2 := blk_frozen HK.out 2
            go_wp2
            have HK3 := blk_set (blk_set (blk_set HK.out 0 (.int .i64 i)) 1 (.int .i64 k_)) 2 (.int .i64 j)
            refine bodyPost_ret (results_ct rfl _ _ w.heap.size 34 #[.int .i64 i, .int .i64 k_, .int .i64 j] (0, 0) _ rfl HK3 Try.underlying34 rfl (by kernel_rfl)) rfl ⟨?_, below_set (below_set (below_set (zd HB.out _) (Nat.le_refl _)) (Nat.le_refl _)) (Nat.le_refl _)⟩
            rfl
          · have h2b : decide (vi < vk) = false := decide_eq_false h2
            have e := HP3.out
            rw [if_neg (fun h => h2 h.2)] at e
            have HP4 := zk e
            clear HP3 e
            go_wp2
            go_quiet (fail)
            go_wp2
            go_roundg rj
            case measure => simp
            case rel => exact ⟨rj, j + 1, by simp [wrap64], rfl, HJL2, ⟨by omega⟩, HP4, ⟨blk_drewN HK.out _⟩, ⟨zd HB.out _⟩⟩
        · have h1b : decide (vj < vi) = false := decide_eq_false h1
          have e := HP3.out
          rw [if_neg (fun h => h1 h.1)] at e
          have HP4 := zk e
          clear HP3 e
          go_wp2
          go_quiet (fail)
          go_wp2
          go_roundg rj
          case measure => simp
          case rel => exact ⟨rj, j + 1, by simp [wrap64], rfl, HJL2, ⟨by omega⟩, HP4, ⟨blk_drewN HK.out _⟩, ⟨zd HB.out _⟩⟩
def spec_BadTriple.f (k : Nat) (l0 : List Int) : Option ((Int × Int × Int) × Bool) := if l0.length ≤ 1048576 then (spec_l2Order.f k l0).bind fun b => some (if b = true then btOut (btI l0 l0.length 0) else ((0, 0, 0), false)) else none
theorem spec_BadTriple.calls (k : Nat) (A0 : Option Addr) (c0 : Nat) (l0 : List Int) (r1 r2 r3 : Int) (r4 : Bool) (w : World) (hr0 : Kd.C (Kd.int .i64) w A0 l0.length l0) (hc0 : l0.length ≤ c0) (h : spec_BadTriple.f k l0 = some ((r1, r2, r3), r4)) :
 Calls Try.prog 24 #[.slice A0 l0.length c0] w fun e w' => e = .returned (.tuple #[.agg #[.int .i64 r1, .int .i64 r2, .int .i64 r3], .bool r4]) ∧ Below w.heap.size w w' := by
 unfold spec_BadTriple.f at h
 by_cases hl : l0.length ≤ 1048576
 · rw [if_pos hl] at h
   obtain ⟨b, hb, h⟩ := Option.bind_eq_some_iff.1 h
   have h := Option.some.inj h
   cases b with
   | true =>
    rw [if_pos rfl] at h
    have H := badspec_calls k A0 c0 l0 true w hr0 hc0 hl hb (btI l0 l0.length 0) (fun _ => rfl) (fun h => by cases h)
    rw [h] at H
    exact H
   | false =>
    rw [if_neg (by decide)] at h
    have H := badspec_calls k A0 c0 l0 false w hr0 hc0 hl hb none (fun h => by cases h) (fun _ => rfl)
    rw [show btOut none = ((0, 0, 0), false) from rfl, h] at H
    exact H
 · rw [if_neg hl] at h; cases h
end

/-! ### slices_Index_int_int: function 184 -/
def slices_Index_int_int.l0 : Nat → List Int → Int → Int → Int → Option (Int)
 | 0, _, _, _, _ => none
 | k + 1, x0, x1, x7, x8 => if x8 < x7 then (if 0 ≤ x8 then (if x8 < (x0.length : Int) then (if x1 = (rd x0 x8) then (some x8) else (slices_Index_int_int.l0 k x0 x1 x7 (wrap64 (x8 + 1)))) else (none)) else (none)) else (some (-1))
def slices_Index_int_int.f (k : Nat) (l0 : List Int) (a1 : Int) : Option (Int) := slices_Index_int_int.l0 k l0 a1 (l0.length : Int) 0
set_option maxHeartbeats 8000000 in
set_option maxRecDepth 100000 in
theorem slices_Index_int_int.calls (k : Nat) (A0 : Option Addr) (c0 : Nat) (l0 : List Int) (a1 : Int) (r : Int) (w : World) (hr0 : Kd.C (Kd.int .i64) w A0 l0.length l0) (hc0 : l0.length ≤ c0) (h : slices_Index_int_int.f k l0 a1 = some r) :
 Calls Try.prog 184 #[.slice A0 l0.length c0, .int .i64 a1] w fun e w' => e = .returned (.int .i64 r) ∧ Drawn0 w w' := by
 have HR0 := zk hr0
 have HC0 := zk hc0
 clear hr0 hc0
 have H : (slices_Index_int_int.l0 k l0 a1 (l0.length : Int) 0) = some r := h
 clear h
 have H' := zk H
 clear H
 go_enter Try.func184, Try.ntmps184
 go_wp2
 go_loopg [8] k (fun kq v8 w' => ∃ (x8_1 : Int), v8 = .int .i64 x8_1 ∧ Aside0 (slices_Index_int_int.l0 kq l0 a1 (l0.length : Int) x8_1 = some r) ∧ Aside0 (kq ≤ k) ∧ Drawn0 w w')
 case atStart => exact ⟨(0), (by first | rfl | (simp; done) | (simp [*]; done)), H', ⟨Nat.le_refl _⟩, by repeat (first | exact Drawn0.refl _ | apply Drawn0.step)⟩
 case round =>
  clear H'
  try clear c1
  try clear p2
  obtain ⟨x8_1, rfl, HA, HK1, ⟨m1, rfl⟩⟩ := hrel
  cases gk with
  | zero => exact absurd HA.out (by simp [slices_Index_int_int.l0])
  | succ k1 =>
   have H := HA.out
   clear HA
   simp only [slices_Index_int_int.l0] at H
   by_cases c3 : x8_1 < (l0.length : Int)
   · rw [if_pos c3] at H
     have c3b0 : decide (x8_1 < (l0.length : Int)) = true := decide_eq_true c3
     clear c3
     by_cases c4 : 0 ≤ x8_1
     · rw [if_pos c4] at H
       have c4b0 : decide (0 ≤ x8_1) = true := decide_eq_true c4
       clear c4
       by_cases c5 : x8_1 < (l0.length : Int)
       · rw [if_pos c5] at H
         have c5b0 : decide (x8_1 < (l0.length : Int)) = true := decide_eq_true c5
         clear c5
         by_cases c6 : a1 = (rd l0 x8_1)
         · rw [if_pos c6] at H
           have c6b0 : (a1 == (rd l0 x8_1)) = true := beq_iff_eq.mpr c6
           have c6b1 : (a1 != (rd l0 x8_1)) = false := bne_eq_false_iff_eq.mpr c6
           clear c6
           obtain rfl := Option.some.inj H
           have p111 : 0 ≤ (x8_1 : Int) := zo (by assumption)
           have q111 : x8_1 < (l0.length : Int) := zo (by assumption)
           obtain ⟨ad111, e111, hx111_0⟩ := Kd.at_int HR0.out x8_1 p111 q111
           cases e111
           replace p111 := eq_true p111
           replace q111 := eq_true q111
           go_wp2
           go_ret
           exact ⟨by first | rfl | (simp; done) | (simp [*]; done), by repeat (first | exact Drawn0.refl _ | apply Drawn0.step)⟩
         · rw [if_neg c6] at H
           have c6b0 : (a1 == (rd l0 x8_1)) = false := beq_eq_false_iff_ne.mpr c6
           have c6b1 : (a1 != (rd l0 x8_1)) = true := bne_iff_ne.mpr c6
           have H' := zk H
           clear H
           have p111 : 0 ≤ (x8_1 : Int) := zo (by assumption)
           have q111 : x8_1 < (l0.length : Int) := zo (by assumption)
           obtain ⟨ad111, e111, hx111_0⟩ := Kd.at_int HR0.out x8_1 p111 q111
           cases e111
           replace p111 := eq_true p111
           replace q111 := eq_true q111
           go_wp2
           go_roundg k1
           case measure => have := HK1.out; omega
           case rel => exact ⟨(wrap64 (x8_1 + 1)), (by first | rfl | (simp; done) | (simp [*]; done)), H', ⟨by have := HK1.out; omega⟩, by repeat (first | exact Drawn0.refl _ | apply Drawn0.step)⟩
       · rw [if_neg c5] at H
         exact absurd H (by simp)
     · rw [if_neg c4] at H
       exact absurd H (by simp)
   · rw [if_neg c3] at H
     have c3b0 : decide (x8_1 < (l0.length : Int)) = false := decide_eq_false c3
     clear c3
     obtain rfl := Option.some.inj H
     go_wp2
     go_ret
     exact ⟨by first | rfl | (simp; done) | (simp [*]; done), by repeat (first | exact Drawn0.refl _ | apply Drawn0.step)⟩

/-! ### slices_Contains_int_int: function 236 -/
def slices_Contains_int_int.f (k : Nat) (l0 : List Int) (a1 : Int) : Option (Bool) := (slices_Index_int_int.f k l0 a1).bind fun t112 => (some (decide (t112 ≥ 0)))
set_option maxHeartbeats 8000000 in
set_option maxRecDepth 100000 in
theorem slices_Contains_int_int.calls (k : Nat) (A0 : Option Addr) (c0 : Nat) (l0 : List Int) (a1 : Int) (r : Bool) (w : World) (hr0 : Kd.C (Kd.int .i64) w A0 l0.length l0) (hc0 : l0.length ≤ c0) (h : slices_Contains_int_int.f k l0 a1 = some r) :
 Calls Try.prog 236 #[.slice A0 l0.length c0, .int .i64 a1] w fun e w' => e = .returned (.bool r) ∧ Drawn0 w w' := by
 have HR0 := zk hr0
 have HC0 := zk hc0
 clear hr0 hc0
 have H : ((slices_Index_int_int.f k l0 a1).bind fun t112 => (some (decide (t112 ≥ 0)))) = some r := h
 clear h
 replace H := Option.bind_eq_some_iff.mp H
 obtain ⟨t112, A30, H⟩ := H
 try dsimp only at H
 have A3 := zk A30
 clear A30
 obtain rfl := Option.some.inj H
 go_enter Try.func236, Try.ntmps236
 go_wp2_with (first | ((with_reducible refine gate_callee (f := 184) rfl ?_); refine goesL_ (some 7) rfl rfl Try.func184 (by kernel_rfl) rfl #[.slice A0 l0.length c0, .int .i64 a1] rfl (by (try simp only [List.map_toArray, List.map_cons, List.map_nil]); first | done | rfl | (simp only [List.length_drop, List.length_take]; rfl)) ?_; (with_reducible refine (slices_Index_int_int.calls k _ _ l0 a1 t112 _ ?side1 ?side2 A3.out).mono ?_); (case side1 => repeat (first | exact HR0.out | (with_reducible refine zv ?_ _) | (with_reducible refine zu ?_ _) | (with_reducible refine zw ?_))); (case side2 => exact HC0.out); rintro e w' ⟨rfl, ⟨nd, rfl⟩⟩; refine ⟨_, rfl, ?_⟩))
 go_ret
 exact ⟨by first | rfl | (simp; done) | (simp [*]; done), by repeat (first | exact Drawn0.refl _ | apply Drawn0.step)⟩

end Go.Proofs.Ytlkddcabjcejdaa.MFnOneStack
