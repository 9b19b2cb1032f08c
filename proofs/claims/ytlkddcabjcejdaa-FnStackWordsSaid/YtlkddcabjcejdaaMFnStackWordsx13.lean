/- The functions that FnStackWords comes to, with a walk for each. Made by this session's own program (wip/tools/mk.py), in the form of the kit's print; walks named in NOTES.md were written by hand. -/
import Derived.Test.YtlkddcabjcejdaaMFnStackWordsx0
import Derived.Test.YtlkddcabjcejdaaMFnStackWordsx1
import Derived.Test.YtlkddcabjcejdaaMFnStackWordsx6
import Derived.Test.YtlkddcabjcejdaaMFnStackWordsx7
import Derived.Test.YtlkddcabjcejdaaMFnStackWordsx8
import Derived.Test.YtlkddcabjcejdaaMFnStackWordsx9
import Derived.Test.YtlkddcabjcejdaaMFnStackWordsx10
namespace Go.Proofs.Ytlkddcabjcejdaa.MFnStackWords
open Go.RowKit Go.Proofs.YtlkddcabjcejdaaW.PrintWords Go.Proofs.YtlkddcabjcejdaaW.PrintLast Go.Proofs.YtlkddcabjcejdaaW.PrintMore
attribute [local go_sem] max2_int min2_int max_two min_two max_three min_three max_four min_four   -- for this text's walks alone
set_option linter.unusedVariables false
set_option linter.unusedSimpArgs false

/-! ### spec_l2Any: function 209 -/
def spec_l2Any.f (k : Nat) (a0 : ByteArray) : Option (Bool) := (spec_l1In.f (a0.size : Int) 2 14).bind fun t533 => (if t533 = true then ((spec_l2Word.f k a0 (wrap64 ((a0.size : Int) / 2))).bind fun t534 => (some t534)) else (some false))
set_option maxHeartbeats 8000000 in
set_option maxRecDepth 100000 in
theorem spec_l2Any.calls (k : Nat) (a0 : ByteArray) (r : Bool) (w : World) (h : spec_l2Any.f k a0 = some r) :
 Calls Try.prog 209 #[.string a0] w fun e w' => e = .returned (.bool r) ∧ Drawn0 w w' := by
 have H : ((spec_l1In.f (a0.size : Int) 2 14).bind fun t533 => (if t533 = true then ((spec_l2Word.f k a0 (wrap64 ((a0.size : Int) / 2))).bind fun t534 => (some t534)) else (some false))) = some r := h
 clear h
 replace H := Option.bind_eq_some_iff.mp H
 obtain ⟨t533, A20, H⟩ := H
 try dsimp only at H
 have A2 := zk A20
 clear A20
 by_cases c3 : t533 = true
 · subst c3
   have H1 : ((spec_l2Word.f k a0 (wrap64 ((a0.size : Int) / 2))).bind fun t534 => (some t534)) = some r := by rw [if_pos rfl] at H; exact H
   clear H
   have H := H1
   clear H1
   replace H := Option.bind_eq_some_iff.mp H
   obtain ⟨t534, A40, H⟩ := H
   try dsimp only at H
   have A4 := zk A40
   clear A40
   obtain rfl := Option.some.inj H
   go_enter Try.func209, Try.ntmps209
   go_wp2_with (first | ((with_reducible refine gate_callee (f := 154) rfl ?_); refine goesL_ (some 5) rfl rfl Try.func154 (by kernel_rfl) rfl #[.int .i64 (a0.size : Int), .int .i64 2, .int .i64 14] rfl (by (try simp only [List.map_toArray, List.map_cons, List.map_nil]); first | done | rfl | (simp only [List.length_drop, List.length_take]; rfl)) ?_; (with_reducible refine (spec_l1In.calls (a0.size : Int) 2 14 true _ A2.out).mono ?_); rintro e w' ⟨rfl, ⟨nd, rfl⟩⟩; refine ⟨_, rfl, ?_⟩) | (go_at_call 201; (with_reducible refine (spec_l2Word.calls k a0 (wrap64 ((a0.size : Int) / 2)) t534 _ A4.out).mono ?_); rintro e w' ⟨rfl, ⟨nd, rfl⟩⟩))
   go_ret
   exact ⟨by first | rfl | (simp; done) | (simp [*]; done), by repeat (first | exact Drawn0.refl _ | apply Drawn0.step)⟩
 · replace c3 := Bool.eq_false_iff.mpr c3
   subst c3
   have H1 : (some false) = some r := by rw [if_neg (show ¬ (false = true) by decide)] at H; exact H
   clear H
   have H := H1
   clear H1
   obtain rfl := Option.some.inj H
   go_enter Try.func209, Try.ntmps209
   go_wp2_with (first | ((with_reducible refine gate_callee (f := 154) rfl ?_); refine goesL_ (some 5) rfl rfl Try.func154 (by kernel_rfl) rfl #[.int .i64 (a0.size : Int), .int .i64 2, .int .i64 14] rfl (by (try simp only [List.map_toArray, List.map_cons, List.map_nil]); first | done | rfl | (simp only [List.length_drop, List.length_take]; rfl)) ?_; (with_reducible refine (spec_l1In.calls (a0.size : Int) 2 14 false _ A2.out).mono ?_); rintro e w' ⟨rfl, ⟨nd, rfl⟩⟩; refine ⟨_, rfl, ?_⟩))
   go_ret
   exact ⟨by first | rfl | (simp; done) | (simp [*]; done), by repeat (first | exact Drawn0.refl _ | apply Drawn0.step)⟩

/-! ### spec_MirrorWord: function 99 -/
def spec_MirrorWord.l0 : Nat → ByteArray → ByteArray → Int → Option (ByteArray × Bool)
 | 0, _, _, _ => none
 | k + 1, x0, x4, x5 => if x5 ≥ 0 then (if 0 ≤ x5 then (if x5 < (x0.size : Int) then (if (bt x0 x5) = 73 then (if x4.size + 1 ≤ 9223372036854775807 then (spec_MirrorWord.l0 k x0 (x4 ++ (⟨#[79]⟩ : ByteArray)) (wrap64 (x5 - 1))) else (none)) else (if x4.size + 1 ≤ 9223372036854775807 then (spec_MirrorWord.l0 k x0 (x4 ++ (⟨#[73]⟩ : ByteArray)) (wrap64 (x5 - 1))) else (none))) else (none)) else (none)) else (some (x4, true))
def spec_MirrorWord.f (k : Nat) (a0 : ByteArray) : Option (ByteArray × Bool) := (spec_l2Any.f k a0).bind fun t535 => (if t535 = true then (spec_MirrorWord.l0 k a0 (⟨#[]⟩ : ByteArray) (wrap64 ((a0.size : Int) - 1))) else (some ((⟨#[]⟩ : ByteArray), false)))
set_option maxHeartbeats 8000000 in
set_option maxRecDepth 100000 in
theorem spec_MirrorWord.calls (k : Nat) (a0 : ByteArray) (r1 : ByteArray) (r2 : Bool) (w : World) (h : spec_MirrorWord.f k a0 = some (r1, r2)) :
 Calls Try.prog 99 #[.string a0] w fun e w' => e = .returned (.tuple #[.string r1, .bool r2]) ∧ Drawn0 w w' := by
 have H : ((spec_l2Any.f k a0).bind fun t535 => (if t535 = true then (spec_MirrorWord.l0 k a0 (⟨#[]⟩ : ByteArray) (wrap64 ((a0.size : Int) - 1))) else (some ((⟨#[]⟩ : ByteArray), false)))) = some (r1, r2) := h
 clear h
 replace H := Option.bind_eq_some_iff.mp H
 obtain ⟨t535, A20, H⟩ := H
 try dsimp only at H
 have A2 := zk A20
 clear A20
 by_cases c3 : t535 = true
 · subst c3
   have H1 : (spec_MirrorWord.l0 k a0 (⟨#[]⟩ : ByteArray) (wrap64 ((a0.size : Int) - 1))) = some (r1, r2) := by rw [if_pos rfl] at H; exact H
   clear H
   have H := H1
   clear H1
   have H' := zk H
   clear H
   go_enter Try.func99, Try.ntmps99
   go_wp2_with (first | ((with_reducible refine gate_callee (f := 209) rfl ?_); refine goesL_ (some 7) rfl rfl Try.func209 (by kernel_rfl) rfl #[.string a0] rfl (by (try simp only [List.map_toArray, List.map_cons, List.map_nil]); first | done | rfl | (simp only [List.length_drop, List.length_take]; rfl)) ?_; (with_reducible refine (spec_l2Any.calls k a0 true _ A2.out).mono ?_); rintro e w' ⟨rfl, ⟨nd, rfl⟩⟩; refine ⟨_, rfl, ?_⟩))
   go_loopg [4, 5] k (fun kq v4 v5 w' => ∃ (x4_1 : ByteArray) (x5_1 : Int), v4 = .string x4_1 ∧ v5 = .int .i64 x5_1 ∧ Aside0 (spec_MirrorWord.l0 kq a0 x4_1 x5_1 = some (r1, r2)) ∧ Aside0 (kq ≤ k) ∧ Drawn0 w w')
   case atStart => exact ⟨((⟨#[]⟩ : ByteArray)), (wrap64 ((a0.size : Int) - 1)), (by first | rfl | (simp; done) | (simp [*]; done)), (by first | rfl | (simp; done) | (simp [*]; done)), H', ⟨Nat.le_refl _⟩, by repeat (first | exact Drawn0.refl _ | apply Drawn0.step)⟩
   case round =>
    clear H'
    try clear c2
    try clear p2
    try clear c3
    obtain ⟨x4_1, x5_1, rfl, rfl, HA, HK1, ⟨m1, rfl⟩⟩ := hrel
    cases gk with
    | zero => exact absurd HA.out (by simp [spec_MirrorWord.l0])
    | succ k1 =>
     have H := HA.out
     clear HA
     simp only [spec_MirrorWord.l0] at H
     by_cases c4 : x5_1 ≥ 0
     · rw [if_pos c4] at H
       have c4b0 : decide (0 ≤ x5_1) = true := decide_eq_true c4
       clear c4
       by_cases c5 : 0 ≤ x5_1
       · rw [if_pos c5] at H
         have c5b0 : decide (0 ≤ x5_1) = true := decide_eq_true c5
         clear c5
         by_cases c6 : x5_1 < (a0.size : Int)
         · rw [if_pos c6] at H
           have c6b0 : decide (x5_1 < (a0.size : Int)) = true := decide_eq_true c6
           clear c6
           by_cases c8 : (bt a0 x5_1) = 73
           · rw [if_pos c8] at H
             have c8b0 : ((bt a0 x5_1) == 73) = true := beq_iff_eq.mpr c8
             have c8b1 : ((bt a0 x5_1) != 73) = false := bne_eq_false_iff_eq.mpr c8
             clear c8
             by_cases c9 : x4_1.size + 1 ≤ 9223372036854775807
             · rw [if_pos c9] at H
               have c9b0 := eq_true c9
               have c9b1 : decide (x4_1.size + 1 ≤ 9223372036854775807) = true := decide_eq_true c9
               try have c9b2 : (9223372036854775807 < x4_1.size + 1) = False := eq_false (Nat.not_lt.2 c9)
               have H' := zk H
               clear H
               have p7 : 0 ≤ (x5_1 : Int) := zo (by assumption)
               have q7 : x5_1 < (a0.size : Int) := zo (by assumption)
               have hx7 := bt_at a0 x5_1
               replace p7 := eq_true p7
               replace q7 := eq_true q7
               go_wp2
               go_roundg k1
               case measure => have := HK1.out; omega
               case rel => exact ⟨(x4_1 ++ (⟨#[79]⟩ : ByteArray)), (wrap64 (x5_1 - 1)), (by first | rfl | (simp; done) | (simp [*]; done)), (by first | rfl | (simp; done) | (simp [*]; done)), H', ⟨by have := HK1.out; omega⟩, by repeat (first | exact Drawn0.refl _ | apply Drawn0.step)⟩
             · rw [if_neg c9] at H
               exact absurd H (by simp)
           · rw [if_neg c8] at H
             have c8b0 : ((bt a0 x5_1) == 73) = false := beq_eq_false_iff_ne.mpr c8
             have c8b1 : ((bt a0 x5_1) != 73) = true := bne_iff_ne.mpr c8
             by_cases c10 : x4_1.size + 1 ≤ 9223372036854775807
             · rw [if_pos c10] at H
               have c10b0 := eq_true c10
               have c10b1 : decide (x4_1.size + 1 ≤ 9223372036854775807) = true := decide_eq_true c10
               try have c10b2 : (9223372036854775807 < x4_1.size + 1) = False := eq_false (Nat.not_lt.2 c10)
               have H' := zk H
               clear H
               have p7 : 0 ≤ (x5_1 : Int) := zo (by assumption)
               have q7 : x5_1 < (a0.size : Int) := zo (by assumption)
               have hx7 := bt_at a0 x5_1
               replace p7 := eq_true p7
               replace q7 := eq_true q7
               go_wp2
               go_roundg k1
               case measure => have := HK1.out; omega
               case rel => exact ⟨(x4_1 ++ (⟨#[73]⟩ : ByteArray)), (wrap64 (x5_1 - 1)), (by first | rfl | (simp; done) | (simp [*]; done)), (by first | rfl | (simp; done) | (simp [*]; done)), H', ⟨by have := HK1.out; omega⟩, by repeat (first | exact Drawn0.refl _ | apply Drawn0.step)⟩
             · rw [if_neg c10] at H
               exact absurd H (by simp)
         · rw [if_neg c6] at H
           exact absurd H (by simp)
       · rw [if_neg c5] at H
         exact absurd H (by simp)
     · rw [if_neg c4] at H
       have c4b0 : decide (0 ≤ x5_1) = false := decide_eq_false c4
       clear c4
       simp only [Option.some.injEq, Prod.mk.injEq] at H
       obtain ⟨rfl, rfl⟩ := H
       go_wp2
       go_ret2
       exact ⟨by first | rfl | (simp; done) | (simp [*]; done), by repeat (first | exact Drawn0.refl _ | apply Drawn0.step)⟩
 · replace c3 := Bool.eq_false_iff.mpr c3
   subst c3
   have H1 : (some ((⟨#[]⟩ : ByteArray), false)) = some (r1, r2) := by rw [if_neg (show ¬ (false = true) by decide)] at H; exact H
   clear H
   have H := H1
   clear H1
   simp only [Option.some.injEq, Prod.mk.injEq] at H
   obtain ⟨rfl, rfl⟩ := H
   go_enter Try.func99, Try.ntmps99
   go_wp2_with (first | ((with_reducible refine gate_callee (f := 209) rfl ?_); refine goesL_ (some 7) rfl rfl Try.func209 (by kernel_rfl) rfl #[.string a0] rfl (by (try simp only [List.map_toArray, List.map_cons, List.map_nil]); first | done | rfl | (simp only [List.length_drop, List.length_take]; rfl)) ?_; (with_reducible refine (spec_l2Any.calls k a0 false _ A2.out).mono ?_); rintro e w' ⟨rfl, ⟨nd, rfl⟩⟩; refine ⟨_, rfl, ?_⟩))
   go_ret2
   exact ⟨by first | rfl | (simp; done) | (simp [*]; done), by repeat (first | exact Drawn0.refl _ | apply Drawn0.step)⟩

/-! ### impl_DepthOf: function 100 -/
def impl_DepthOf.f (k : Nat) (a0 : ByteArray) : Option (Int × Bool) := (impl_depthOf.f k a0).bind fun bt536 => (some (bt536.1, bt536.2))
set_option maxHeartbeats 8000000 in
set_option maxRecDepth 100000 in
theorem impl_DepthOf.calls (k : Nat) (a0 : ByteArray) (r1 : Int) (r2 : Bool) (w : World) (h : impl_DepthOf.f k a0 = some (r1, r2)) :
 Calls Try.prog 100 #[.string a0] w fun e w' => e = .returned (.tuple #[.int .i64 r1, .bool r2]) ∧ Below w.heap.size w w' := by
 have HB := zk (Below.refl w.heap.size w)
 have H : ((impl_depthOf.f k a0).bind fun bt536 => (some (bt536.1, bt536.2))) = some (r1, r2) := h
 clear h
 replace H := Option.bind_eq_some_iff.mp H
 obtain ⟨⟨t536, t537⟩, A20, H⟩ := H
 try dsimp only at H
 have A2 := zk A20
 clear A20
 simp only [Option.some.injEq, Prod.mk.injEq] at H
 obtain ⟨rfl, rfl⟩ := H
 go_enter Try.func100, Try.ntmps100
 go_wp2_with (first | ((with_reducible refine gate_callee (f := 217) rfl ?_); refine goesL_ (some 5) rfl rfl Try.func217 (by kernel_rfl) rfl #[.string a0] rfl (by (try simp only [List.map_toArray, List.map_cons, List.map_nil]); first | done | rfl | (simp only [List.length_drop, List.length_take]; rfl)) ?_; (with_reducible refine (impl_depthOf.calls k a0 t536 t537 _ A2.out).mono ?_); rintro e w3 ⟨rfl, hb⟩; refine ⟨_, rfl, ?_⟩; have n0_ := zk (below_step (by repeat (first | exact HB.out | apply za | apply zd | apply ze)) hb); clear HB; have HB := n0_; clear n0_; (try clear hb); (try clear hb2); (try clear hk); (try clear hi)))
 go_ret2
 exact ⟨by first | rfl | (simp [errW_none, errW_some] <;> rfl) | (simp [*, errW_none, errW_some] <;> rfl), by repeat (first | exact HB.out | apply za | apply zd | apply ze)⟩

/-! ### spec_l1Most: function 179 -/
def spec_l1Most.f (a0 : Int) (a1 : Int) : Option (Int) := if a0 > a1 then (some a0) else (some a1)
set_option maxHeartbeats 8000000 in
set_option maxRecDepth 100000 in
theorem spec_l1Most.calls (a0 : Int) (a1 : Int) (r : Int) (w : World) (h : spec_l1Most.f a0 a1 = some r) :
 Calls Try.prog 179 #[.int .i64 a0, .int .i64 a1] w fun e w' => e = .returned (.int .i64 r) ∧ Drawn0 w w' := by
 have H : (if a0 > a1 then (some a0) else (some a1)) = some r := h
 clear h
 by_cases c3 : a0 > a1
 · rw [if_pos c3] at H
   have c3b0 : decide (a1 < a0) = true := decide_eq_true c3
   clear c3
   obtain rfl := Option.some.inj H
   go_enter Try.func179, Try.ntmps179
   go_wp2
   go_ret
   exact ⟨by first | rfl | (simp; done) | (simp [*]; done), by repeat (first | exact Drawn0.refl _ | apply Drawn0.step)⟩
 · rw [if_neg c3] at H
   have c3b0 : decide (a1 < a0) = false := decide_eq_false c3
   clear c3
   obtain rfl := Option.some.inj H
   go_enter Try.func179, Try.ntmps179
   go_wp2
   go_ret
   exact ⟨by first | rfl | (simp; done) | (simp [*]; done), by repeat (first | exact Drawn0.refl _ | apply Drawn0.step)⟩

/-! ### spec_l2Depth: function 218 -/
def spec_l2Depth.l0 : Nat → ByteArray → Int → Int → Int → Option (Int)
 | 0, _, _, _, _ => none
 | k + 1, x0, x3, x4, x5 => if x5 < (x0.size : Int) then (if 0 ≤ x5 then (if (bt x0 x5) = 73 then ((spec_l1Most.f x4 (wrap64 (x3 + 1))).bind fun t538 => (spec_l2Depth.l0 k x0 (wrap64 (x3 + 1)) t538 (wrap64 (x5 + 1)))) else ((spec_l1Most.f x4 (wrap64 (x3 - 1))).bind fun t539 => (spec_l2Depth.l0 k x0 (wrap64 (x3 - 1)) t539 (wrap64 (x5 + 1))))) else (none)) else (some x4)
def spec_l2Depth.f (k : Nat) (a0 : ByteArray) : Option (Int) := spec_l2Depth.l0 k a0 0 0 0
set_option maxHeartbeats 8000000 in
set_option maxRecDepth 100000 in
theorem spec_l2Depth.calls (k : Nat) (a0 : ByteArray) (r : Int) (w : World) (h : spec_l2Depth.f k a0 = some r) :
 Calls Try.prog 218 #[.string a0] w fun e w' => e = .returned (.int .i64 r) ∧ Drawn0 w w' := by
 have H : (spec_l2Depth.l0 k a0 0 0 0) = some r := h
 clear h
 have H' := zk H
 clear H
 go_enter Try.func218, Try.ntmps218
 go_wp2
 go_loopg [3, 4, 5] k (fun kq v3 v4 v5 w' => ∃ (x3_1 : Int) (x4_1 : Int) (x5_1 : Int), v3 = .int .i64 x3_1 ∧ v4 = .int .i64 x4_1 ∧ v5 = .int .i64 x5_1 ∧ Aside0 (spec_l2Depth.l0 kq a0 x3_1 x4_1 x5_1 = some r) ∧ Aside0 (kq ≤ k) ∧ Drawn0 w w')
 case atStart => exact ⟨(0), (0), (0), (by first | rfl | (simp; done) | (simp [*]; done)), (by first | rfl | (simp; done) | (simp [*]; done)), (by first | rfl | (simp; done) | (simp [*]; done)), H', ⟨Nat.le_refl _⟩, by repeat (first | exact Drawn0.refl _ | apply Drawn0.step)⟩
 case round =>
  clear H'
  obtain ⟨x3_1, x4_1, x5_1, rfl, rfl, rfl, HA, HK1, ⟨m1, rfl⟩⟩ := hrel
  cases gk with
  | zero => exact absurd HA.out (by simp [spec_l2Depth.l0])
  | succ k1 =>
   have H := HA.out
   clear HA
   simp only [spec_l2Depth.l0] at H
   by_cases c2 : x5_1 < (a0.size : Int)
   · rw [if_pos c2] at H
     have c2b0 : decide (x5_1 < (a0.size : Int)) = true := decide_eq_true c2
     clear c2
     by_cases c3 : 0 ≤ x5_1
     · rw [if_pos c3] at H
       have c3b0 : decide (0 ≤ x5_1) = true := decide_eq_true c3
       clear c3
       by_cases c5 : (bt a0 x5_1) = 73
       · rw [if_pos c5] at H
         have c5b0 : ((bt a0 x5_1) == 73) = true := beq_iff_eq.mpr c5
         have c5b1 : ((bt a0 x5_1) != 73) = false := bne_eq_false_iff_eq.mpr c5
         clear c5
         replace H := Option.bind_eq_some_iff.mp H
         obtain ⟨t538, A60, H⟩ := H
         try dsimp only at H
         have A6 := zk A60
         clear A60
         have H' := zk H
         clear H
         have p4 : 0 ≤ (x5_1 : Int) := zo (by assumption)
         have q4 : x5_1 < (a0.size : Int) := zo (by assumption)
         have hx4 := bt_at a0 x5_1
         replace p4 := eq_true p4
         replace q4 := eq_true q4
         go_wp2_with (first | ((with_reducible refine gate_callee (f := 179) rfl ?_); refine goesL_ (some 22) rfl rfl Try.func179 (by kernel_rfl) rfl #[.int .i64 x4_1, .int .i64 (wrap64 (x3_1 + 1))] rfl (by (try simp only [List.map_toArray, List.map_cons, List.map_nil]); first | done | rfl | (simp only [List.length_drop, List.length_take]; rfl)) ?_; (with_reducible refine (spec_l1Most.calls x4_1 (wrap64 (x3_1 + 1)) t538 _ A6.out).mono ?_); rintro e w' ⟨rfl, ⟨nd, rfl⟩⟩; refine ⟨_, rfl, ?_⟩))
         go_roundg k1
         case measure => have := HK1.out; omega
         case rel => exact ⟨(wrap64 (x3_1 + 1)), (t538), (wrap64 (x5_1 + 1)), (by first | rfl | (simp; done) | (simp [*]; done)), (by first | rfl | (simp; done) | (simp [*]; done)), (by first | rfl | (simp; done) | (simp [*]; done)), H', ⟨by have := HK1.out; omega⟩, by repeat (first | exact Drawn0.refl _ | apply Drawn0.step)⟩
       · rw [if_neg c5] at H
         have c5b0 : ((bt a0 x5_1) == 73) = false := beq_eq_false_iff_ne.mpr c5
         have c5b1 : ((bt a0 x5_1) != 73) = true := bne_iff_ne.mpr c5
         replace H := Option.bind_eq_some_iff.mp H
         obtain ⟨t539, A70, H⟩ := H
         try dsimp only at H
         have A7 := zk A70
         clear A70
         have H' := zk H
         clear H
         have p4 : 0 ≤ (x5_1 : Int) := zo (by assumption)
         have q4 : x5_1 < (a0.size : Int) := zo (by assumption)
         have hx4 := bt_at a0 x5_1
         replace p4 := eq_true p4
         replace q4 := eq_true q4
         go_wp2_with (first | ((with_reducible refine gate_callee (f := 179) rfl ?_); refine goesL_ (some 22) rfl rfl Try.func179 (by kernel_rfl) rfl #[.int .i64 x4_1, .int .i64 (wrap64 (x3_1 - 1))] rfl (by (try simp only [List.map_toArray, List.map_cons, List.map_nil]); first | done | rfl | (simp only [List.length_drop, List.length_take]; rfl)) ?_; (with_reducible refine (spec_l1Most.calls x4_1 (wrap64 (x3_1 - 1)) t539 _ A7.out).mono ?_); rintro e w' ⟨rfl, ⟨nd, rfl⟩⟩; refine ⟨_, rfl, ?_⟩))
         go_roundg k1
         case measure => have := HK1.out; omega
         case rel => exact ⟨(wrap64 (x3_1 - 1)), (t539), (wrap64 (x5_1 + 1)), (by first | rfl | (simp; done) | (simp [*]; done)), (by first | rfl | (simp; done) | (simp [*]; done)), (by first | rfl | (simp; done) | (simp [*]; done)), H', ⟨by have := HK1.out; omega⟩, by repeat (first | exact Drawn0.refl _ | apply Drawn0.step)⟩
     · rw [if_neg c3] at H
       exact absurd H (by simp)
   · rw [if_neg c2] at H
     have c2b0 : decide (x5_1 < (a0.size : Int)) = false := decide_eq_false c2
     clear c2
     obtain rfl := Option.some.inj H
     go_wp2
     go_ret
     exact ⟨by first | rfl | (simp; done) | (simp [*]; done), by repeat (first | exact Drawn0.refl _ | apply Drawn0.step)⟩

/-! ### spec_DepthOf: function 101 -/
def spec_DepthOf.f (k : Nat) (a0 : ByteArray) : Option (Int × Bool) := (spec_l2Any.f k a0).bind fun t540 => (if t540 = true then ((spec_l2Depth.f k a0).bind fun t541 => (some (t541, true))) else (some (0, false)))
set_option maxHeartbeats 8000000 in
set_option maxRecDepth 100000 in
theorem spec_DepthOf.calls (k : Nat) (a0 : ByteArray) (r1 : Int) (r2 : Bool) (w : World) (h : spec_DepthOf.f k a0 = some (r1, r2)) :
 Calls Try.prog 101 #[.string a0] w fun e w' => e = .returned (.tuple #[.int .i64 r1, .bool r2]) ∧ Drawn0 w w' := by
 have H : ((spec_l2Any.f k a0).bind fun t540 => (if t540 = true then ((spec_l2Depth.f k a0).bind fun t541 => (some (t541, true))) else (some (0, false)))) = some (r1, r2) := h
 clear h
 replace H := Option.bind_eq_some_iff.mp H
 obtain ⟨t540, A20, H⟩ := H
 try dsimp only at H
 have A2 := zk A20
 clear A20
 by_cases c3 : t540 = true
 · subst c3
   have H1 : ((spec_l2Depth.f k a0).bind fun t541 => (some (t541, true))) = some (r1, r2) := by rw [if_pos rfl] at H; exact H
   clear H
   have H := H1
   clear H1
   replace H := Option.bind_eq_some_iff.mp H
   obtain ⟨t541, A40, H⟩ := H
   try dsimp only at H
   have A4 := zk A40
   clear A40
   simp only [Option.some.injEq, Prod.mk.injEq] at H
   obtain ⟨rfl, rfl⟩ := H
   go_enter Try.func101, Try.ntmps101
   go_wp2_with (first | ((with_reducible refine gate_callee (f := 209) rfl ?_); refine goesL_ (some 5) rfl rfl Try.func209 (by kernel_rfl) rfl #[.string a0] rfl (by (try simp only [List.map_toArray, List.map_cons, List.map_nil]); first | done | rfl | (simp only [List.length_drop, List.length_take]; rfl)) ?_; (with_reducible refine (spec_l2Any.calls k a0 true _ A2.out).mono ?_); rintro e w' ⟨rfl, ⟨nd, rfl⟩⟩; refine ⟨_, rfl, ?_⟩) | ((with_reducible refine gate_callee (f := 218) rfl ?_); refine goesL_ (some 8) rfl rfl Try.func218 (by kernel_rfl) rfl #[.string a0] rfl (by (try simp only [List.map_toArray, List.map_cons, List.map_nil]); first | done | rfl | (simp only [List.length_drop, List.length_take]; rfl)) ?_; (with_reducible refine (spec_l2Depth.calls k a0 t541 _ A4.out).mono ?_); rintro e w' ⟨rfl, ⟨nd, rfl⟩⟩; refine ⟨_, rfl, ?_⟩))
   go_ret2
   exact ⟨by first | rfl | (simp; done) | (simp [*]; done), by repeat (first | exact Drawn0.refl _ | apply Drawn0.step)⟩
 · replace c3 := Bool.eq_false_iff.mpr c3
   subst c3
   have H1 : (some (0, false)) = some (r1, r2) := by rw [if_neg (show ¬ (false = true) by decide)] at H; exact H
   clear H
   have H := H1
   clear H1
   simp only [Option.some.injEq, Prod.mk.injEq] at H
   obtain ⟨rfl, rfl⟩ := H
   go_enter Try.func101, Try.ntmps101
   go_wp2_with (first | ((with_reducible refine gate_callee (f := 209) rfl ?_); refine goesL_ (some 5) rfl rfl Try.func209 (by kernel_rfl) rfl #[.string a0] rfl (by (try simp only [List.map_toArray, List.map_cons, List.map_nil]); first | done | rfl | (simp only [List.length_drop, List.length_take]; rfl)) ?_; (with_reducible refine (spec_l2Any.calls k a0 false _ A2.out).mono ?_); rintro e w' ⟨rfl, ⟨nd, rfl⟩⟩; refine ⟨_, rfl, ?_⟩))
   go_ret2
   exact ⟨by first | rfl | (simp; done) | (simp [*]; done), by repeat (first | exact Drawn0.refl _ | apply Drawn0.step)⟩

/-! ### spec_DrawWordsOf: function 102 -/
def spec_DrawWordsOf.f (l0 : List Int) : Option (Int) := (spec_l1Cur_pick.f l0 0 0 9).bind fun bt543 => (some bt543.1)
set_option maxHeartbeats 8000000 in
set_option maxRecDepth 100000 in
theorem spec_DrawWordsOf.calls (A0 : Option Addr) (c0 : Nat) (l0 : List Int) (r : Int) (w : World) (hr0 : Kd.C (Kd.int .u8) w A0 l0.length l0) (hc0 : l0.length ≤ c0) (h : spec_DrawWordsOf.f l0 = some r) :
 Calls Try.prog 102 #[.slice A0 l0.length c0] w fun e w' => e = .returned (.int .i64 r) ∧ Below w.heap.size w w' := by
 have hu102 := Try.underlying102
 have HR0 := zk hr0
 have HC0 := zk hc0
 clear hr0 hc0
 have HB := zk (Below.refl w.heap.size w)
 have H : ((spec_l1Cur_pick.f l0 0 0 9).bind fun bt543 => (some bt543.1)) = some r := h
 clear h
 replace H := Option.bind_eq_some_iff.mp H
 obtain ⟨⟨t543, t544, t545⟩, A20, H⟩ := H
 try dsimp only at H
 have A2 := zk A20
 clear A20
 obtain rfl := Option.some.inj H
 go_enter Try.func102, Try.ntmps102
 go_wp2_with (first | ((with_reducible refine gate_dst (N := 6) rfl ?_); refine box_event ?hg (N := 6) ?hd (cs := #[.slice A0 l0.length c0, .int .i64 0, .int .u64 0]) (t := 102) ?hr ?_; (case hd => rfl); (case hg => rfl); (case hr => first | (go_simp; done) | (go_simp; rfl)); intro gb542 hg w3 hbox hb; have n0_ := zk (below_step (by repeat (first | exact HB.out | apply za | apply zd | apply ze)) hb); have n1_ := zk ((⟨_, _, hbox, (by rw [hg]; exact (below_size (by repeat (first | exact HB.out | apply za | apply zd | apply ze))) : w.heap.size ≤ gb542), HR0.out⟩ : IsS102 w _ gb542 l0 0 0)); have n2_ := zk ((by rw [hg]; exact (below_size (by repeat (first | exact HB.out | apply za | apply zd | apply ze))) : w.heap.size ≤ gb542)); have n3_ := zk ((by rw [hg]; exact (below_size (by repeat (first | exact HB.out | apply za | apply zd | apply ze))) : w.heap.size ≤ gb542)); clear HB; have HB := n0_; have HI542 := n1_; have GW542 := n2_; have GE542 := n3_; clear n0_ n1_ n2_ n3_; clear hb hbox hg) | ((with_reducible refine gate_callee (f := 192) rfl ?_); refine goesL_ (some 8) rfl rfl Try.func192 (by kernel_rfl) rfl #[.pointer (some ⟨gb542, 0, none⟩), .int .i64 9] rfl (by (try simp only [List.map_toArray, List.map_cons, List.map_nil]); first | done | rfl | (simp only [List.length_drop, List.length_take]; rfl)) ?_; (with_reducible refine (spec_l1Cur_pick.calls gb542 l0 0 0 9 t543 t544 t545 w _ ?side1 ?side2 A2.out).mono ?_); (case side1 => repeat (first | exact HI542.out | apply IsS102.alloc | apply IsS102.drewN | apply IsS102.drew | apply IsS102.set_1 | apply IsS102.set_2)); (case side2 => repeat (first | (with_reducible first | exact HB.out | apply za | apply zd | apply ze | refine below_set ?_ (IsS102.ge HI542.out)) | exact HB.out)); rintro e w4 ⟨rfl, hi, hb, hk⟩; refine ⟨_, rfl, ?_⟩; have n0_ := zk (hb); have n1_ := zk (hi); clear HB; clear HI542; have HB := n0_; have HI542 := n1_; clear n0_ n1_; (try clear hb); (try clear hb2); (try clear hk); (try clear hi)))
 go_ret
 exact ⟨by first | rfl | (simp [errW_none, errW_some] <;> rfl) | (simp [*, errW_none, errW_some] <;> rfl), by repeat (first | (with_reducible first | exact HB.out | apply za | apply zd | apply ze | refine below_set ?_ (IsS102.ge HI542.out)) | exact HB.out)⟩

/-! ### impl_WordsOf: function 103 -/
def impl_WordsOf.f (k : Nat) (a0 : Int) : Option (List ByteArray × Bool) := (impl_isSize.f a0).bind fun t546 => (if t546 = true then ((impl_words.f k (⟨#[]⟩ : ByteArray) a0 a0 ([] : List ByteArray)).bind fun t547 => (some (t547, true))) else (some (([] : List ByteArray), false)))
set_option maxHeartbeats 8000000 in
set_option maxRecDepth 100000 in
theorem impl_WordsOf.calls (k : Nat) (a0 : Int) (r1 : List ByteArray) (r2 : Bool) (w : World) (h : impl_WordsOf.f k a0 = some (r1, r2)) :
 Calls Try.prog 103 #[.int .i64 a0] w fun e w' => ∃ v0_ : Value, e = .returned (.tuple #[v0_, .bool r2]) ∧ Kd.R Kd.string 9 w' w.heap.size (fun _ => True) v0_ r1 ∧ Below w.heap.size w w' := by
 have HB := zk (Below.refl w.heap.size w)
 have H : ((impl_isSize.f a0).bind fun t546 => (if t546 = true then ((impl_words.f k (⟨#[]⟩ : ByteArray) a0 a0 ([] : List ByteArray)).bind fun t547 => (some (t547, true))) else (some (([] : List ByteArray), false)))) = some (r1, r2) := h
 clear h
 replace H := Option.bind_eq_some_iff.mp H
 obtain ⟨t546, A20, H⟩ := H
 try dsimp only at H
 have A2 := zk A20
 clear A20
 by_cases c3 : t546 = true
 · subst c3
   have H1 : ((impl_words.f k (⟨#[]⟩ : ByteArray) a0 a0 ([] : List ByteArray)).bind fun t547 => (some (t547, true))) = some (r1, r2) := by rw [if_pos rfl] at H; exact H
   clear H
   have H := H1
   clear H1
   replace H := Option.bind_eq_some_iff.mp H
   obtain ⟨t547, A40, H⟩ := H
   try dsimp only at H
   have A4 := zk A40
   clear A40
   simp only [Option.some.injEq, Prod.mk.injEq] at H
   obtain ⟨rfl, rfl⟩ := H
   go_enter Try.func103, Try.ntmps103
   go_wp2_with (first | ((with_reducible refine gate_callee (f := 158) rfl ?_); refine goesL_ (some 5) rfl rfl Try.func158 (by kernel_rfl) rfl #[.int .i64 a0] rfl (by (try simp only [List.map_toArray, List.map_cons, List.map_nil]); first | done | rfl | (simp only [List.length_drop, List.length_take]; rfl)) ?_; (with_reducible refine (impl_isSize.calls a0 true _ A2.out).mono ?_); rintro e w' ⟨rfl, ⟨nd, rfl⟩⟩; refine ⟨_, rfl, ?_⟩) | ((with_reducible refine gate_callee (f := 219) rfl ?_); refine goesL_ (some 9) rfl rfl Try.func219 (by kernel_rfl) rfl #[.string (⟨#[]⟩ : ByteArray), .int .i64 a0, .int .i64 a0, .slice none 0 0] rfl (by (try simp only [List.map_toArray, List.map_cons, List.map_nil]); first | done | rfl | (simp only [List.length_drop, List.length_take]; rfl)) ?_; (refine (impl_words.calls k (⟨#[]⟩ : ByteArray) a0 a0 (fun k_ => some k_ = (.slice none 0 0 : Value).ownBlock) (.slice none 0 0) ([] : List ByteArray) t547 w _ ?side1 ?side2 A4.out).mono ?_); (case side1 => repeat (first | exact HB.out | apply za | apply zd | apply ze)); (case side2 => exact Kd.R_nil _ _ _ _ _); rintro e w5 ⟨v548, rfl, ho0, hb, hkp⟩; refine ⟨_, rfl, ?_⟩; have n0_ := zk (Kd.R_mono (ok' := fun k_ => True) ho0 (fun k_ hk_ => trivial)); have n1_ := zk (hb); clear HB; have HO549 := n0_; have HB := n1_; clear n0_ n1_; (try clear hb); (try clear hkp); (try clear ho0)))
   go_ret2
   exact ⟨_, by first | rfl | (simp [errW_none, errW_some] <;> rfl) | (simp [*, errW_none, errW_some] <;> rfl), by (with_reducible repeat (first | apply zs | apply zr | apply zt)); exact HO549.out, by repeat (first | exact HB.out | apply za | apply zd | apply ze)⟩
 · replace c3 := Bool.eq_false_iff.mpr c3
   subst c3
   have H1 : (some (([] : List ByteArray), false)) = some (r1, r2) := by rw [if_neg (show ¬ (false = true) by decide)] at H; exact H
   clear H
   have H := H1
   clear H1
   simp only [Option.some.injEq, Prod.mk.injEq] at H
   obtain ⟨rfl, rfl⟩ := H
   go_enter Try.func103, Try.ntmps103
   go_wp2_with (first | ((with_reducible refine gate_callee (f := 158) rfl ?_); refine goesL_ (some 5) rfl rfl Try.func158 (by kernel_rfl) rfl #[.int .i64 a0] rfl (by (try simp only [List.map_toArray, List.map_cons, List.map_nil]); first | done | rfl | (simp only [List.length_drop, List.length_take]; rfl)) ?_; (with_reducible refine (impl_isSize.calls a0 false _ A2.out).mono ?_); rintro e w' ⟨rfl, ⟨nd, rfl⟩⟩; refine ⟨_, rfl, ?_⟩))
   go_ret2
   exact ⟨_, by first | rfl | (simp [errW_none, errW_some] <;> rfl) | (simp [*, errW_none, errW_some] <;> rfl), by first | exact Kd.R_nil _ _ _ _ _ | exact Kd.N_nil _ _ _ _ _ | exact Kd.V_nil _ _ _ _ _ | exact Kd.Q_nil _ _ _ _ _ | exact Kd.S_nil _ _ _ _ _, by repeat (first | exact HB.out | apply za | apply zd | apply ze)⟩

/-! ### spec_WordsOf: function 104 -/
def spec_WordsOf.f (k : Nat) (a0 : Int) : Option (List ByteArray × Bool) := (spec_l1In.f a0 1 7).bind fun t550 => (if t550 = true then ((spec_l2Words.f k (⟨#[]⟩ : ByteArray) 0 a0).bind fun t551 => (some (t551, true))) else (some ((([] : List ByteArray)), false)))
set_option maxHeartbeats 8000000 in
set_option maxRecDepth 100000 in
theorem spec_WordsOf.calls (k : Nat) (a0 : Int) (r1 : List ByteArray) (r2 : Bool) (w : World) (h : spec_WordsOf.f k a0 = some (r1, r2)) :
 Calls Try.prog 104 #[.int .i64 a0] w fun e w' => ∃ v0_ : Value, e = .returned (.tuple #[v0_, .bool r2]) ∧ Kd.R Kd.string 9 w' w.heap.size (fun _ => True) v0_ r1 ∧ Below w.heap.size w w' := by
 have HB := zk (Below.refl w.heap.size w)
 have H : ((spec_l1In.f a0 1 7).bind fun t550 => (if t550 = true then ((spec_l2Words.f k (⟨#[]⟩ : ByteArray) 0 a0).bind fun t551 => (some (t551, true))) else (some ((([] : List ByteArray)), false)))) = some (r1, r2) := h
 clear h
 replace H := Option.bind_eq_some_iff.mp H
 obtain ⟨t550, A20, H⟩ := H
 try dsimp only at H
 have A2 := zk A20
 clear A20
 by_cases c3 : t550 = true
 · subst c3
   have H1 : ((spec_l2Words.f k (⟨#[]⟩ : ByteArray) 0 a0).bind fun t551 => (some (t551, true))) = some (r1, r2) := by rw [if_pos rfl] at H; exact H
   clear H
   have H := H1
   clear H1
   replace H := Option.bind_eq_some_iff.mp H
   obtain ⟨t551, A40, H⟩ := H
   try dsimp only at H
   have A4 := zk A40
   clear A40
   simp only [Option.some.injEq, Prod.mk.injEq] at H
   obtain ⟨rfl, rfl⟩ := H
   go_enter Try.func104, Try.ntmps104
   go_wp2_with (first | ((with_reducible refine gate_callee (f := 154) rfl ?_); refine goesL_ (some 5) rfl rfl Try.func154 (by kernel_rfl) rfl #[.int .i64 a0, .int .i64 1, .int .i64 7] rfl (by (try simp only [List.map_toArray, List.map_cons, List.map_nil]); first | done | rfl | (simp only [List.length_drop, List.length_take]; rfl)) ?_; (with_reducible refine (spec_l1In.calls a0 1 7 true _ A2.out).mono ?_); rintro e w' ⟨rfl, ⟨nd, rfl⟩⟩; refine ⟨_, rfl, ?_⟩) | ((with_reducible refine gate_callee (f := 150) rfl ?_); refine goesL_ (some 9) rfl rfl Try.func150 (by kernel_rfl) rfl #[.string (⟨#[]⟩ : ByteArray), .int .i64 0, .int .i64 a0] rfl (by (try simp only [List.map_toArray, List.map_cons, List.map_nil]); first | done | rfl | (simp only [List.length_drop, List.length_take]; rfl)) ?_; (with_reducible refine (spec_l2Words.calls k (⟨#[]⟩ : ByteArray) 0 a0 t551 _ A4.out).mono ?_); rintro e w5 ⟨v552, rfl, ho0, hb⟩; refine ⟨_, rfl, ?_⟩; have n0_ := zk (Kd.R_lower ho0 (below_size (by repeat (first | exact HB.out | apply za | apply zd | apply ze)))); have n1_ := zk (below_step (by repeat (first | exact HB.out | apply za | apply zd | apply ze)) hb); clear HB; have HO553 := n0_; have HB := n1_; clear n0_ n1_; (try clear hb); (try clear hb2); (try clear hk); (try clear hi); (try clear ho0)))
   go_ret2
   exact ⟨_, by first | rfl | (simp [errW_none, errW_some] <;> rfl) | (simp [*, errW_none, errW_some] <;> rfl), by (with_reducible repeat (first | apply zs | apply zr | apply zt)); exact HO553.out, by repeat (first | exact HB.out | apply za | apply zd | apply ze)⟩
 · replace c3 := Bool.eq_false_iff.mpr c3
   subst c3
   have H1 : (some ((([] : List ByteArray)), false)) = some (r1, r2) := by rw [if_neg (show ¬ (false = true) by decide)] at H; exact H
   clear H
   have H := H1
   clear H1
   obtain ⟨y554, hy554⟩ : ∃ y_ : List ByteArray, y_ = (([] : List ByteArray)) := ⟨_, rfl⟩
   replace H : (some (y554, false)) = some (r1, r2) := by first | (rw [hy554]; with_reducible exact H) | (have H2_ := (Option.bind_some _ _).symm.trans H; rw [hy554]; with_reducible exact H2_) | (have H2_ := (Option.bind_some _ _).symm.trans H; with_reducible exact H2_) | with_reducible exact H | (rw [hy554]; exact H) | exact H
   have Ny554 := zk hy554
   clear hy554
   simp only [Option.some.injEq, Prod.mk.injEq] at H
   obtain ⟨rfl, rfl⟩ := H
   go_enter Try.func104, Try.ntmps104
   go_wp2_with (first | ((with_reducible refine gate_callee (f := 154) rfl ?_); refine goesL_ (some 5) rfl rfl Try.func154 (by kernel_rfl) rfl #[.int .i64 a0, .int .i64 1, .int .i64 7] rfl (by (try simp only [List.map_toArray, List.map_cons, List.map_nil]); first | done | rfl | (simp only [List.length_drop, List.length_take]; rfl)) ?_; (with_reducible refine (spec_l1In.calls a0 1 7 false _ A2.out).mono ?_); rintro e w' ⟨rfl, ⟨nd, rfl⟩⟩; refine ⟨_, rfl, ?_⟩) | ((with_reducible refine gate_dst (N := 7) rfl ?_); refine Kd.R_lit Kd.string _ 9 ?hg (N := 7) ?hd (xs := ([] : List ByteArray)) (inner := []) (ok := fun _ => True) (okp := fun _ => True) ?hr ?hp (fun _ hk => hk) trivial (Below.refl _ _) (Nat.le_refl _) (by simp) ?_; (case hd => rfl); (case hg => rfl); (case hr => first | (go_simp; done) | (go_simp; rfl)); (case hp => exact (Reps.none _ _)); intro v555 w6 ho7 hb hg_ hnew_; clear hg_ hnew_; (first | rw [← Ny554.out] at ho7 | (simp only [Int.reduceToNat] at ho7; rw [← Ny554.out] at ho7)); have n0_ := zk (Kd.R_lower ho7 (below_size (by repeat (first | exact HB.out | apply za | apply zd | apply ze)))); have n1_ := zk (below_step (by repeat (first | exact HB.out | apply za | apply zd | apply ze)) hb); clear HB; have HO556 := n0_; have HB := n1_; clear n0_ n1_; clear hb ho7))
   go_ret2
   exact ⟨_, by first | rfl | (simp [errW_none, errW_some] <;> rfl) | (simp [*, errW_none, errW_some] <;> rfl), by (with_reducible repeat (first | apply zs | apply zr | apply zt)); exact HO556.out, by repeat (first | exact HB.out | apply za | apply zd | apply ze)⟩

/-! ### laws_rTexts: function 105 -/
def laws_rTexts.l0 : Nat → List ByteArray → List ByteArray → Int → Option (Bool)
 | 0, _, _, _ => none
 | k + 1, x0, x1, x5 => if x5 < (x0.length : Int) then (if 0 ≤ x5 then (if x5 < (x1.length : Int) then (if (rdOf ByteArray.empty x0 x5).toList = (rdOf ByteArray.empty x1 x5).toList then (laws_rTexts.l0 k x0 x1 (wrap64 (x5 + 1))) else (some false)) else (none)) else (none)) else (some true)
def laws_rTexts.f (k : Nat) (l0 : List ByteArray) (l1 : List ByteArray) : Option (Bool) := if (l0.length : Int) = (l1.length : Int) then (laws_rTexts.l0 k l0 l1 0) else (some false)
set_option maxHeartbeats 8000000 in
set_option maxRecDepth 100000 in
theorem laws_rTexts.calls (k : Nat) (A0 : Option Addr) (c0 : Nat) (l0 : List ByteArray) (A1 : Option Addr) (c1 : Nat) (l1 : List ByteArray) (r : Bool) (w : World) (hr0 : Kd.C Kd.string w A0 l0.length l0) (hc0 : l0.length ≤ c0) (hr1 : Kd.C Kd.string w A1 l1.length l1) (hc1 : l1.length ≤ c1) (h : laws_rTexts.f k l0 l1 = some r) :
 Calls Try.prog 105 #[.slice A0 l0.length c0, .slice A1 l1.length c1] w fun e w' => e = .returned (.bool r) ∧ Drawn0 w w' := by
 have HR0 := zk hr0
 have HC0 := zk hc0
 clear hr0 hc0
 have HR1 := zk hr1
 have HC1 := zk hc1
 clear hr1 hc1
 have H : (if (l0.length : Int) = (l1.length : Int) then (laws_rTexts.l0 k l0 l1 0) else (some false)) = some r := h
 clear h
 by_cases c3 : (l0.length : Int) = (l1.length : Int)
 · rw [if_pos c3] at H
   have c3b0 : ((l0.length : Int) == (l1.length : Int)) = true := beq_iff_eq.mpr c3
   have c3b1 : ((l0.length : Int) != (l1.length : Int)) = false := bne_eq_false_iff_eq.mpr c3
   have c3b2 : (l0.length == l1.length) = true := by first | simpa using c3 | (simp at c3 ⊢; omega)
   clear c3
   have H' := zk H
   clear H
   go_enter Try.func105, Try.ntmps105
   go_wp2
   repeat (go_quiet (fail); try go_wp2)
   go_loopg [5] k (fun kq v5 w' => ∃ (x5_1 : Int), v5 = .int .i64 x5_1 ∧ Aside0 (laws_rTexts.l0 kq l0 l1 x5_1 = some r) ∧ Aside0 (kq ≤ k) ∧ Drawn0 w w')
   case atStart => exact ⟨(0), (by first | rfl | (simp; done) | (simp [*]; done)), H', ⟨Nat.le_refl _⟩, by repeat (first | exact Drawn0.refl _ | apply Drawn0.step)⟩
   case round =>
    clear H'
    try clear c1
    try clear p2
    try clear c3
    try clear c3b0
    try clear c3b1
    try clear c3b2
    obtain ⟨x5_1, rfl, HA, HK1, ⟨m1, rfl⟩⟩ := hrel
    cases gk with
    | zero => exact absurd HA.out (by simp [laws_rTexts.l0])
    | succ k1 =>
     have H := HA.out
     clear HA
     simp only [laws_rTexts.l0] at H
     by_cases c4 : x5_1 < (l0.length : Int)
     · rw [if_pos c4] at H
       have c4b0 : decide (x5_1 < (l0.length : Int)) = true := decide_eq_true c4
       clear c4
       by_cases c5 : 0 ≤ x5_1
       · rw [if_pos c5] at H
         have c5b0 : decide (0 ≤ x5_1) = true := decide_eq_true c5
         clear c5
         by_cases c6 : x5_1 < (l1.length : Int)
         · rw [if_pos c6] at H
           have c6b0 : decide (x5_1 < (l1.length : Int)) = true := decide_eq_true c6
           clear c6
           by_cases c7 : (rdOf ByteArray.empty l0 x5_1).toList = (rdOf ByteArray.empty l1 x5_1).toList
           · rw [if_pos c7] at H
             have c7b0 : ((rdOf ByteArray.empty l0 x5_1).toList == (rdOf ByteArray.empty l1 x5_1).toList) = true := beq_iff_eq.mpr c7
             have c7b1 : ((rdOf ByteArray.empty l0 x5_1).toList != (rdOf ByteArray.empty l1 x5_1).toList) = false := bne_eq_false_iff_eq.mpr c7
             clear c7
             have H' := zk H
             clear H
             have p557 : 0 ≤ (x5_1 : Int) := zo (by assumption)
             have q557 : x5_1 < (l0.length : Int) := zo (by assumption)
             obtain ⟨ad557, e557, hx557_0⟩ := Kd.at_string HR0.out x5_1 p557 q557
             cases e557
             replace p557 := eq_true p557
             replace q557 := eq_true q557
             have p558 : 0 ≤ (x5_1 : Int) := zo (by assumption)
             have q558 : x5_1 < (l1.length : Int) := zo (by assumption)
             obtain ⟨ad558, e558, hx558_0⟩ := Kd.at_string HR1.out x5_1 p558 q558
             cases e558
             replace p558 := eq_true p558
             replace q558 := eq_true q558
             go_wp2
             repeat (go_quiet (fail); try go_wp2)
             go_roundg k1
             case measure => have := HK1.out; omega
             case rel => exact ⟨(wrap64 (x5_1 + 1)), (by first | rfl | (simp; done) | (simp [*]; done)), H', ⟨by have := HK1.out; omega⟩, by repeat (first | exact Drawn0.refl _ | apply Drawn0.step)⟩
           · rw [if_neg c7] at H
             have c7b0 : ((rdOf ByteArray.empty l0 x5_1).toList == (rdOf ByteArray.empty l1 x5_1).toList) = false := beq_eq_false_iff_ne.mpr c7
             have c7b1 : ((rdOf ByteArray.empty l0 x5_1).toList != (rdOf ByteArray.empty l1 x5_1).toList) = true := bne_iff_ne.mpr c7
             obtain rfl := Option.some.inj H
             have p557 : 0 ≤ (x5_1 : Int) := zo (by assumption)
             have q557 : x5_1 < (l0.length : Int) := zo (by assumption)
             obtain ⟨ad557, e557, hx557_0⟩ := Kd.at_string HR0.out x5_1 p557 q557
             cases e557
             replace p557 := eq_true p557
             replace q557 := eq_true q557
             have p558 : 0 ≤ (x5_1 : Int) := zo (by assumption)
             have q558 : x5_1 < (l1.length : Int) := zo (by assumption)
             obtain ⟨ad558, e558, hx558_0⟩ := Kd.at_string HR1.out x5_1 p558 q558
             cases e558
             replace p558 := eq_true p558
             replace q558 := eq_true q558
             go_wp2
             repeat (go_quiet (fail); try go_wp2)
             go_ret
             exact ⟨by first | rfl | (simp; done) | (simp [*]; done), by repeat (first | exact Drawn0.refl _ | apply Drawn0.step)⟩
         · rw [if_neg c6] at H
           exact absurd H (by simp)
       · rw [if_neg c5] at H
         exact absurd H (by simp)
     · rw [if_neg c4] at H
       have c4b0 : decide (x5_1 < (l0.length : Int)) = false := decide_eq_false c4
       clear c4
       obtain rfl := Option.some.inj H
       go_wp2
       repeat (go_quiet (fail); try go_wp2)
       go_ret
       exact ⟨by first | rfl | (simp; done) | (simp [*]; done), by repeat (first | exact Drawn0.refl _ | apply Drawn0.step)⟩
 · rw [if_neg c3] at H
   have c3b0 : ((l0.length : Int) == (l1.length : Int)) = false := beq_eq_false_iff_ne.mpr c3
   have c3b1 : ((l0.length : Int) != (l1.length : Int)) = true := bne_iff_ne.mpr c3
   have c3b2 : (l0.length == l1.length) = false := by first | simpa using c3 | (simp at c3 ⊢; omega)
   obtain rfl := Option.some.inj H
   go_enter Try.func105, Try.ntmps105
   go_wp2
   repeat (go_quiet (fail); try go_wp2)
   go_ret
   exact ⟨by first | rfl | (simp; done) | (simp [*]; done), by repeat (first | exact Drawn0.refl _ | apply Drawn0.step)⟩

/-! ### spec_DrawOutputsOf: function 106 -/
def spec_DrawOutputsOf.f (k : Nat) (l0 : List Int) : Option (List Int) := (spec_l1Cur_order.f k l0 0 0).bind fun bt560 => (if (bt560.1.length : Int) > 5 then ((spec_l1Cur_one.f l0 bt560.2.1 bt560.2.2 6).bind fun bt565 => (if bt565.1 = true then (some bt560.1) else (some (([3, 1, 2, 4] : List Int))))) else (some bt560.1))
set_option maxHeartbeats 8000000 in
set_option maxRecDepth 100000 in
theorem spec_DrawOutputsOf.calls (k : Nat) (A0 : Option Addr) (c0 : Nat) (l0 : List Int) (r : List Int) (w : World) (hr0 : Kd.C (Kd.int .u8) w A0 l0.length l0) (hc0 : l0.length ≤ c0) (h : spec_DrawOutputsOf.f k l0 = some r) :
 Calls Try.prog 106 #[.slice A0 l0.length c0] w fun e w' => ∃ v0_ : Value, e = .returned (v0_) ∧ Kd.R (Kd.int .i64) 3 w' w.heap.size (fun _ => True) v0_ r ∧ Below w.heap.size w w' := by
 have hu102 := Try.underlying102
 have HR0 := zk hr0
 have HC0 := zk hc0
 clear hr0 hc0
 have HB := zk (Below.refl w.heap.size w)
 have H : ((spec_l1Cur_order.f k l0 0 0).bind fun bt560 => (if (bt560.1.length : Int) > 5 then ((spec_l1Cur_one.f l0 bt560.2.1 bt560.2.2 6).bind fun bt565 => (if bt565.1 = true then (some bt560.1) else (some (([3, 1, 2, 4] : List Int))))) else (some bt560.1))) = some r := h
 clear h
 replace H := Option.bind_eq_some_iff.mp H
 obtain ⟨⟨t560, t563, t564⟩, A20, H⟩ := H
 try dsimp only at H
 have A2 := zk A20
 clear A20
 by_cases c3 : (t560.length : Int) > 5
 · rw [if_pos c3] at H
   have c3b0 : decide (5 < (t560.length : Int)) = true := decide_eq_true c3
   have c3b1 : decide (5 < t560.length) = true := decide_eq_true (by omega)
   clear c3
   replace H := Option.bind_eq_some_iff.mp H
   obtain ⟨⟨t565, t566, t567⟩, A40, H⟩ := H
   try dsimp only at H
   have A4 := zk A40
   clear A40
   by_cases c5 : t565 = true
   · subst c5
     have H1 : (some t560) = some r := by rw [if_pos rfl] at H; exact H
     clear H
     have H := H1
     clear H1
     obtain rfl := Option.some.inj H
     go_enter Try.func106, Try.ntmps106
     go_wp2_with (first | ((with_reducible refine gate_dst (N := 7) rfl ?_); refine box_event ?hg (N := 7) ?hd (cs := #[.slice A0 l0.length c0, .int .i64 0, .int .u64 0]) (t := 102) ?hr ?_; (case hd => rfl); (case hg => rfl); (case hr => first | (go_simp; done) | (go_simp; rfl)); intro gb559 hg w6 hbox hb; have n0_ := zk (below_step (by repeat (first | exact HB.out | apply za | apply zd | apply ze)) hb); have n1_ := zk ((⟨_, _, hbox, (by rw [hg]; exact (below_size (by repeat (first | exact HB.out | apply za | apply zd | apply ze))) : w.heap.size ≤ gb559), HR0.out⟩ : IsS102 w _ gb559 l0 0 0)); have n2_ := zk ((by rw [hg]; exact (below_size (by repeat (first | exact HB.out | apply za | apply zd | apply ze))) : w.heap.size ≤ gb559)); have n3_ := zk ((by rw [hg]; exact (below_size (by repeat (first | exact HB.out | apply za | apply zd | apply ze))) : w.heap.size ≤ gb559)); clear HB; have HB := n0_; have HI559 := n1_; have GW559 := n2_; have GE559 := n3_; clear n0_ n1_ n2_ n3_; clear hb hbox hg) | ((with_reducible refine gate_callee (f := 166) rfl ?_); refine goesL_ (some 9) rfl rfl Try.func166 (by kernel_rfl) rfl #[.pointer (some ⟨gb559, 0, none⟩)] rfl (by (try simp only [List.map_toArray, List.map_cons, List.map_nil]); first | done | rfl | (simp only [List.length_drop, List.length_take]; rfl)) ?_; (with_reducible refine (spec_l1Cur_order.calls k gb559 l0 0 0 t560 t563 t564 w _ ?side1 ?side2 A2.out).mono ?_); (case side1 => repeat (first | exact HI559.out | apply IsS102.alloc | apply IsS102.drewN | apply IsS102.drew | apply IsS102.set_1 | apply IsS102.set_2)); (case side2 => repeat (first | (with_reducible first | exact HB.out | apply za | apply zd | apply ze | refine below_set ?_ (IsS102.ge HI559.out)) | exact HB.out)); rintro e w7 ⟨v561, rfl, ho0, hi, hb, hk⟩; refine ⟨_, rfl, ?_⟩; have n0_ := zk (Kd.R_lower ho0 (below_size (by repeat (first | (with_reducible first | exact HB.out | apply za | apply zd | apply ze | refine below_set ?_ (IsS102.ge HI559.out)) | exact HB.out)))); have n1_ := zk (hb); have n2_ := zk (hi); clear HB; clear HI559; have HO562 := n0_; have HB := n1_; have HI559 := n2_; clear n0_ n1_ n2_; (try clear hb); (try clear hb2); (try clear hk); (try clear hi); (try clear ho0); obtain ⟨Ao8, co8, eo8⟩ := Kd.R_slice HO562.out; subst eo8) | (go_at_call 164; (with_reducible refine (spec_l1Cur_one.calls gb559 l0 t563 t564 6 true t566 t567 w _ ?side1 ?side2 A4.out).mono ?_); (case side1 => repeat (first | exact HI559.out | apply IsS102.alloc | apply IsS102.drewN | apply IsS102.drew | apply IsS102.set_1 | apply IsS102.set_2)); (case side2 => repeat (first | (with_reducible first | exact HB.out | apply za | apply zd | apply ze | refine below_set ?_ (IsS102.ge HI559.out)) | exact HB.out)); rintro e w9 ⟨rfl, hi, hb, hk⟩; have n0_ := zk (Kd.R_mono (Kd.R_keep (IsS102.apart (show IsS102 w _ gb559 l0 t563 t564 from by repeat (first | exact HI559.out | apply IsS102.alloc | apply IsS102.drewN | apply IsS102.drew | apply IsS102.set_1 | apply IsS102.set_2)) (by (with_reducible repeat (first | apply zs | apply zr | apply zt)); exact HO562.out) (by decide)) hk (fun _ h => h.2)) (fun _ h => h.1)); have n1_ := zk (hb); have n2_ := zk (hi); clear HO562; clear HB; clear HI559; have HO562 := n0_; have HB := n1_; have HI559 := n2_; clear n0_ n1_ n2_; (try clear hb); (try clear hb2); (try clear hk); (try clear hi)))
     go_ret
     exact ⟨_, by first | rfl | (simp [errW_none, errW_some] <;> rfl) | (simp [*, errW_none, errW_some] <;> rfl), by (with_reducible repeat (first | apply zs | apply zr | apply zt)); exact HO562.out, by repeat (first | (with_reducible first | exact HB.out | apply za | apply zd | apply ze | refine below_set ?_ (IsS102.ge HI559.out)) | exact HB.out)⟩
   · replace c5 := Bool.eq_false_iff.mpr c5
     subst c5
     have H1 : (some (([3, 1, 2, 4] : List Int))) = some r := by rw [if_neg (show ¬ (false = true) by decide)] at H; exact H
     clear H
     have H := H1
     clear H1
     obtain ⟨y568, hy568⟩ : ∃ y_ : List Int, y_ = (([3, 1, 2, 4] : List Int)) := ⟨_, rfl⟩
     replace H : (some y568) = some r := by first | (rw [hy568]; with_reducible exact H) | (have H2_ := (Option.bind_some _ _).symm.trans H; rw [hy568]; with_reducible exact H2_) | (have H2_ := (Option.bind_some _ _).symm.trans H; with_reducible exact H2_) | with_reducible exact H | (rw [hy568]; exact H) | exact H
     have Ny568 := zk hy568
     clear hy568
     obtain rfl := Option.some.inj H
     go_enter Try.func106, Try.ntmps106
     go_wp2_with (first | ((with_reducible refine gate_dst (N := 7) rfl ?_); refine box_event ?hg (N := 7) ?hd (cs := #[.slice A0 l0.length c0, .int .i64 0, .int .u64 0]) (t := 102) ?hr ?_; (case hd => rfl); (case hg => rfl); (case hr => first | (go_simp; done) | (go_simp; rfl)); intro gb559 hg w10 hbox hb; have n0_ := zk (below_step (by repeat (first | exact HB.out | apply za | apply zd | apply ze)) hb); have n1_ := zk ((⟨_, _, hbox, (by rw [hg]; exact (below_size (by repeat (first | exact HB.out | apply za | apply zd | apply ze))) : w.heap.size ≤ gb559), HR0.out⟩ : IsS102 w _ gb559 l0 0 0)); have n2_ := zk ((by rw [hg]; exact (below_size (by repeat (first | exact HB.out | apply za | apply zd | apply ze))) : w.heap.size ≤ gb559)); have n3_ := zk ((by rw [hg]; exact (below_size (by repeat (first | exact HB.out | apply za | apply zd | apply ze))) : w.heap.size ≤ gb559)); clear HB; have HB := n0_; have HI559 := n1_; have GW559 := n2_; have GE559 := n3_; clear n0_ n1_ n2_ n3_; clear hb hbox hg) | ((with_reducible refine gate_callee (f := 166) rfl ?_); refine goesL_ (some 9) rfl rfl Try.func166 (by kernel_rfl) rfl #[.pointer (some ⟨gb559, 0, none⟩)] rfl (by (try simp only [List.map_toArray, List.map_cons, List.map_nil]); first | done | rfl | (simp only [List.length_drop, List.length_take]; rfl)) ?_; (with_reducible refine (spec_l1Cur_order.calls k gb559 l0 0 0 t560 t563 t564 w _ ?side1 ?side2 A2.out).mono ?_); (case side1 => repeat (first | exact HI559.out | apply IsS102.alloc | apply IsS102.drewN | apply IsS102.drew | apply IsS102.set_1 | apply IsS102.set_2)); (case side2 => repeat (first | (with_reducible first | exact HB.out | apply za | apply zd | apply ze | refine below_set ?_ (IsS102.ge HI559.out)) | exact HB.out)); rintro e w11 ⟨v561, rfl, ho0, hi, hb, hk⟩; refine ⟨_, rfl, ?_⟩; have n0_ := zk (Kd.R_lower ho0 (below_size (by repeat (first | (with_reducible first | exact HB.out | apply za | apply zd | apply ze | refine below_set ?_ (IsS102.ge HI559.out)) | exact HB.out)))); have n1_ := zk (hb); have n2_ := zk (hi); clear HB; clear HI559; have HO562 := n0_; have HB := n1_; have HI559 := n2_; clear n0_ n1_ n2_; (try clear hb); (try clear hb2); (try clear hk); (try clear hi); (try clear ho0); obtain ⟨Ao12, co12, eo12⟩ := Kd.R_slice HO562.out; subst eo12) | (go_at_call 164; (with_reducible refine (spec_l1Cur_one.calls gb559 l0 t563 t564 6 false t566 t567 w _ ?side1 ?side2 A4.out).mono ?_); (case side1 => repeat (first | exact HI559.out | apply IsS102.alloc | apply IsS102.drewN | apply IsS102.drew | apply IsS102.set_1 | apply IsS102.set_2)); (case side2 => repeat (first | (with_reducible first | exact HB.out | apply za | apply zd | apply ze | refine below_set ?_ (IsS102.ge HI559.out)) | exact HB.out)); rintro e w13 ⟨rfl, hi, hb, hk⟩; have n0_ := zk (Kd.R_mono (Kd.R_keep (IsS102.apart (show IsS102 w _ gb559 l0 t563 t564 from by repeat (first | exact HI559.out | apply IsS102.alloc | apply IsS102.drewN | apply IsS102.drew | apply IsS102.set_1 | apply IsS102.set_2)) (by (with_reducible repeat (first | apply zs | apply zr | apply zt)); exact HO562.out) (by decide)) hk (fun _ h => h.2)) (fun _ h => h.1)); have n1_ := zk (hb); have n2_ := zk (hi); clear HO562; clear HB; clear HI559; have HO562 := n0_; have HB := n1_; have HI559 := n2_; clear n0_ n1_ n2_; (try clear hb); (try clear hb2); (try clear hk); (try clear hi)) | ((with_reducible refine gate_dst (N := 18) rfl ?_); refine Kd.R_lit (Kd.int .i64) _ 3 ?hg (N := 18) ?hd (xs := ([3, 1, 2, 4] : List Int)) (inner := [.int .i64 3, .int .i64 1, .int .i64 2, .int .i64 4]) (ok := fun _ => True) (okp := fun _ => True) ?hr ?hp (fun _ hk => hk) trivial (Below.refl _ _) (Nat.le_refl _) (by simp) ?_; (case hd => rfl); (case hg => rfl); (case hr => first | (go_simp; done) | (go_simp; rfl)); (case hp => exact (Reps.one (show Kd.M (Kd.int .i64) _ _ _ 3 [.int .i64 3] from rfl) (Reps.one (show Kd.M (Kd.int .i64) _ _ _ 1 [.int .i64 1] from rfl) (Reps.one (show Kd.M (Kd.int .i64) _ _ _ 2 [.int .i64 2] from rfl) (Reps.one (show Kd.M (Kd.int .i64) _ _ _ 4 [.int .i64 4] from rfl) (Reps.none _ _)))))); intro v569 w14 ho15 hb hg_ hnew_; clear hg_ hnew_; (first | rw [← Ny568.out] at ho15 | (simp only [Int.reduceToNat] at ho15; rw [← Ny568.out] at ho15)); have n0_ := zk (Kd.R_elder' (by (with_reducible repeat (first | apply zs | apply zr | apply zt)); exact HO562.out) (Kd.R_base ho15) hb); have n1_ := zk (Kd.R_lower (Kd.R_new' ho15 (Kd.R_lt (by (with_reducible repeat (first | apply zs | apply zr | apply zt)); exact HO562.out))) (below_size (by repeat (first | (with_reducible first | exact HB.out | apply za | apply zd | apply ze | refine below_set ?_ (IsS102.ge HI559.out)) | exact HB.out)))); have n2_ := zk (IsS102.below (by repeat (first | exact HI559.out | apply IsS102.alloc | apply IsS102.drewN | apply IsS102.drew | apply IsS102.set_1 | apply IsS102.set_2)) hb); have n3_ := zk (below_step (by repeat (first | (with_reducible first | exact HB.out | apply za | apply zd | apply ze | refine below_set ?_ (IsS102.ge HI559.out)) | exact HB.out)) hb); clear HO562; clear HI559; clear HB; have HO562 := n0_; have HO570 := n1_; have HI559 := n2_; have HB := n3_; clear n0_ n1_ n2_ n3_; clear hb ho15))
     go_ret
     exact ⟨_, by first | rfl | (simp [errW_none, errW_some] <;> rfl) | (simp [*, errW_none, errW_some] <;> rfl), by (with_reducible repeat (first | apply zs | apply zr | apply zt)); exact Kd.R_mono HO570.out (fun _ hk => trivial), by repeat (first | (with_reducible first | exact HB.out | apply za | apply zd | apply ze | refine below_set ?_ (IsS102.ge HI559.out)) | exact HB.out)⟩
 · rw [if_neg c3] at H
   have c3b0 : decide (5 < (t560.length : Int)) = false := decide_eq_false c3
   have c3b1 : decide (5 < t560.length) = false := decide_eq_false (by omega)
   clear c3
   obtain rfl := Option.some.inj H
   go_enter Try.func106, Try.ntmps106
   go_wp2_with (first | ((with_reducible refine gate_dst (N := 7) rfl ?_); refine box_event ?hg (N := 7) ?hd (cs := #[.slice A0 l0.length c0, .int .i64 0, .int .u64 0]) (t := 102) ?hr ?_; (case hd => rfl); (case hg => rfl); (case hr => first | (go_simp; done) | (go_simp; rfl)); intro gb559 hg w16 hbox hb; have n0_ := zk (below_step (by repeat (first | exact HB.out | apply za | apply zd | apply ze)) hb); have n1_ := zk ((⟨_, _, hbox, (by rw [hg]; exact (below_size (by repeat (first | exact HB.out | apply za | apply zd | apply ze))) : w.heap.size ≤ gb559), HR0.out⟩ : IsS102 w _ gb559 l0 0 0)); have n2_ := zk ((by rw [hg]; exact (below_size (by repeat (first | exact HB.out | apply za | apply zd | apply ze))) : w.heap.size ≤ gb559)); have n3_ := zk ((by rw [hg]; exact (below_size (by repeat (first | exact HB.out | apply za | apply zd | apply ze))) : w.heap.size ≤ gb559)); clear HB; have HB := n0_; have HI559 := n1_; have GW559 := n2_; have GE559 := n3_; clear n0_ n1_ n2_ n3_; clear hb hbox hg) | ((with_reducible refine gate_callee (f := 166) rfl ?_); refine goesL_ (some 9) rfl rfl Try.func166 (by kernel_rfl) rfl #[.pointer (some ⟨gb559, 0, none⟩)] rfl (by (try simp only [List.map_toArray, List.map_cons, List.map_nil]); first | done | rfl | (simp only [List.length_drop, List.length_take]; rfl)) ?_; (with_reducible refine (spec_l1Cur_order.calls k gb559 l0 0 0 t560 t563 t564 w _ ?side1 ?side2 A2.out).mono ?_); (case side1 => repeat (first | exact HI559.out | apply IsS102.alloc | apply IsS102.drewN | apply IsS102.drew | apply IsS102.set_1 | apply IsS102.set_2)); (case side2 => repeat (first | (with_reducible first | exact HB.out | apply za | apply zd | apply ze | refine below_set ?_ (IsS102.ge HI559.out)) | exact HB.out)); rintro e w17 ⟨v561, rfl, ho0, hi, hb, hk⟩; refine ⟨_, rfl, ?_⟩; have n0_ := zk (Kd.R_lower ho0 (below_size (by repeat (first | (with_reducible first | exact HB.out | apply za | apply zd | apply ze | refine below_set ?_ (IsS102.ge HI559.out)) | exact HB.out)))); have n1_ := zk (hb); have n2_ := zk (hi); clear HB; clear HI559; have HO562 := n0_; have HB := n1_; have HI559 := n2_; clear n0_ n1_ n2_; (try clear hb); (try clear hb2); (try clear hk); (try clear hi); (try clear ho0); obtain ⟨Ao18, co18, eo18⟩ := Kd.R_slice HO562.out; subst eo18))
   go_ret
   exact ⟨_, by first | rfl | (simp [errW_none, errW_some] <;> rfl) | (simp [*, errW_none, errW_some] <;> rfl), by (with_reducible repeat (first | apply zs | apply zr | apply zt)); exact HO562.out, by repeat (first | (with_reducible first | exact HB.out | apply za | apply zd | apply ze | refine below_set ?_ (IsS102.ge HI559.out)) | exact HB.out)⟩

end Go.Proofs.Ytlkddcabjcejdaa.MFnStackWords
