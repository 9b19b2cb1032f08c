/- The functions that FnOneStack comes to, with a walk for each. Made by this session's own program (wip/tools/mk.py), in the form of the kit's print; walks named in NOTES.md were written by hand. -/
import Derived.Test.YtlkddcabjcejdaaMFnOneStackx0
import Derived.Test.YtlkddcabjcejdaaMFnOneStackx1
import Derived.Test.YtlkddcabjcejdaaMFnOneStackx6
import Derived.Test.YtlkddcabjcejdaaMFnOneStackx7
namespace Go.Proofs.Ytlkddcabjcejdaa.MFnOneStack
open Go.RowKit Go.Proofs.YtlkddcabjcejdaaW.PrintWords Go.Proofs.YtlkddcabjcejdaaW.PrintLast Go.Proofs.YtlkddcabjcejdaaW.PrintMore
attribute [local go_sem] max2_int min2_int max_two min_two max_three min_three max_four min_four   -- for this text's walks alone
set_option linter.unusedVariables false
set_option linter.unusedSimpArgs false

/-! ### spec_l1Cur_spoilt: function 198 -/
section
open Go.Proofs.Ytlkddcabjcejdaa.Base
def spo (a1 x : ByteArray) (p : Nat) (r : Int) : ByteArray := if r = 0 then (a1.extract 0 p ++ x) ++ a1.extract p a1.size else if r = 1 then (a1.extract 0 p ++ x) ++ a1.extract (p + 1) a1.size else a1.extract 0 p ++ a1.extract (p + 1) a1.size
def spec_l1Cur_spoilt.f (s0_0 : List Int) (s0_1 : Int) (s0_2 : Int) (a1 : ByteArray) (a2 : ByteArray) : Option (ByteArray × Int × Int) := if a1.toList = ([] : List UInt8) then (if 1 ≤ a2.size ∧ a2.size ≤ 1000 then some (a2.extract 0 1, s0_1, s0_2) else none) else ((spec_l1Cur_pick.f s0_0 s0_1 s0_2 (a1.size : Int)).bind fun p => (spec_l1Cur_pick.f s0_0 p.2.1 p.2.2 (a2.size : Int)).bind fun q => (spec_l1Cur_pick.f s0_0 q.2.1 q.2.2 3).bind fun r => if 0 ≤ p.1 ∧ p.1 < (a1.size : Int) ∧ 0 ≤ q.1 ∧ q.1 < (a2.size : Int) ∧ a1.size ≤ 1000000 ∧ a2.size ≤ 1000 then some (spo a1 ((a2.extract q.1.toNat a2.size).extract 0 1) p.1.toNat r.1, r.2.1, r.2.2) else none)
set_option maxHeartbeats 8000000 in
set_option maxRecDepth 100000 in
theorem spec_l1Cur_spoilt.calls (g : Nat) (s0_0 : List Int) (s0_1 : Int) (s0_2 : Int) (a1 : ByteArray) (a2 : ByteArray) (r1 : ByteArray) (r2 : Int) (r3 : Int) (w0 w : World) (hI : IsS102 w0 w g s0_0 s0_1 s0_2) (hB : Below w0.heap.size w0 w) (h : spec_l1Cur_spoilt.f s0_0 s0_1 s0_2 a1 a2 = some (r1, r2, r3)) :
 Calls Try.prog 198 #[.pointer (some ⟨g, 0, none⟩), .string a1, .string a2] w fun e w' => e = .returned (.string r1) ∧ IsS102 w0 w' g s0_0 r2 r3 ∧ Below w0.heap.size w0 w' ∧ KeepBut w w' g none := by
 unfold spec_l1Cur_spoilt.f at h
 have HI := zk hI
 have HB := zk hB
 by_cases c1 : a1.toList = ([] : List UInt8)
 · rw [if_pos c1] at h
   by_cases c2 : 1 ≤ a2.size ∧ a2.size ≤ 1000
   · rw [if_pos c2] at h
     obtain ⟨rfl, h2⟩ := Prod.mk.inj (Option.some.inj h)
     obtain ⟨rfl, rfl⟩ := Prod.mk.inj h2
     have c1b : (a1.toList == ([] : List UInt8)) = true := beq_iff_eq.mpr c1
     have hs0 : (0 : Int) ≤ 1 := by omega
     have hs1 : (1 : Int) ≤ (a2.size : Int) := by omega
     clear h h2 c1 hI hB c2
     go_enter Try.func198, Try.ntmps198
     go_wp2_with (fail)
     repeat (go_quiet (fail); try go_wp2)
     go_ret
     exact ⟨by first | rfl | (simp <;> rfl), HI.out, HB.out, KeepBut.refl _ _ _⟩
   · rw [if_neg c2] at h; cases h
 · rw [if_neg c1] at h
   obtain ⟨⟨p, s1, s2⟩, hp, h⟩ := Option.bind_eq_some_iff.1 h
   obtain ⟨⟨q, s3, s4⟩, hq, h⟩ := Option.bind_eq_some_iff.1 h
   obtain ⟨⟨r, s5, s6⟩, hr, h⟩ := Option.bind_eq_some_iff.1 h
   simp only at hq hr h
   by_cases c2 : 0 ≤ p ∧ p < (a1.size : Int) ∧ 0 ≤ q ∧ q < (a2.size : Int) ∧ a1.size ≤ 1000000 ∧ a2.size ≤ 1000
   · rw [if_pos c2] at h
     obtain ⟨hr1, h2⟩ := Prod.mk.inj (Option.some.inj h)
     obtain ⟨rfl, rfl⟩ := Prod.mk.inj h2
     obtain ⟨p0, p1, q0, q1, l1, l2⟩ := c2
     obtain ⟨p, rfl⟩ : ∃ n : Nat, p = (n : Int) := ⟨p.toNat, by omega⟩
     obtain ⟨q, rfl⟩ : ∃ n : Nat, q = (n : Int) := ⟨q.toNat, by omega⟩
     have HP := zk hp
     have HQ := zk hq
     have HR := zk hr
     have HR1 := zk hr1
     have c1b : (a1.toList == ([] : List UInt8)) = false := beq_eq_false_iff_ne.mpr c1
     have q2 : (q : Int) ≤ (a2.size : Int) := by omega
     have q3 : (1 : Int) ≤ ((a2.extract q a2.size).size : Int) := by rw [ByteArray.size_extract]; omega
     clear h h2 hp hq hr hr1 c1 hI hB
     go_enter Try.func198, Try.ntmps198
     go_wp2_with (fail)
     refine (spec_l1Cur_pick.calls g s0_0 s0_1 s0_2 (a1.size : Int) (p : Int) s1 s2 w0 _ HI.out HB.out HP.out).mono ?_
     rintro e_ w1 ⟨rfl, hi1, hb1, hk1⟩
     have HI1 := zk hi1
     have HB1 := zk hb1
     have HK1 := zk hk1
     clear hi1 hb1 hk1
     go_wp2_with (fail)
     refine (spec_l1Cur_pick.calls g s0_0 s1 s2 (a2.size : Int) (q : Int) s3 s4 w0 _ HI1.out HB1.out HQ.out).mono ?_
     rintro e_ w2 ⟨rfl, hi1, hb1, hk1⟩
     have HI2 := zk hi1
     have HB2 := zk hb1
     have HK2 := zk (KeepBut.trans HK1.out hk1 (.inl rfl))
     clear hi1 hb1 hk1
     go_wp2_with (fail)
     refine (spec_l1Cur_pick.calls g s0_0 s3 s4 3 r s5 s6 w0 _ HI2.out HB2.out HR.out).mono ?_
     rintro e_ w3 ⟨rfl, hi1, hb1, hk1⟩
     have HI3 := zk hi1
     have HB3 := zk hb1
     have HK3 := zk (KeepBut.trans HK2.out hk1 (.inl rfl))
     clear hi1 hb1 hk1
     obtain ⟨x, hx⟩ : ∃ x, (a2.extract q a2.size).extract 0 1 = x := ⟨_, rfl⟩
     have hxl : x.size ≤ 1 := by rw [← hx]; simp only [ByteArray.size_extract]; omega
     rw [Int.toNat_natCast, Int.toNat_natCast, hx] at HR1
     rw [hx]
     clear hx HI HB HI1 HB1 HK1 HI2 HB2 HK2 HP HQ HR q0 q1 q2 q3 c1b
     have s1' : (a1.extract 0 p).size ≤ 1000000 := by rw [ByteArray.size_extract]; omega
     have s2' : (a1.extract p a1.size).size ≤ 1000000 := by rw [ByteArray.size_extract]; omega
     have s3' : (a1.extract (p + 1) a1.size).size ≤ 1000000 := by rw [ByteArray.size_extract]; omega
     have s4' : (a1.extract 0 p ++ x).size ≤ 1000001 := by rw [ByteArray.size_append]; omega
     have p2 : (p : Int) ≤ (a1.size : Int) := by omega
     have p3 : (0 : Int) ≤ (p : Int) + 1 := by omega
     have p4 : (p : Int) + 1 ≤ (a1.size : Int) := by omega
     have p5 : wrap64 ((p : Int) + 1) = (p : Int) + 1 := wrap_of (by omega) (by omega)
     have p6 : ((p : Int) + 1).toNat = p + 1 := by omega
     have e1 : (9223372036854775807 < (a1.extract 0 p).size + x.size) = False := eq_false (by omega)
     have e1l : (a1.extract 0 p).size + x.size ≤ 9223372036854775807 := by omega
     have e1d : decide ((a1.extract 0 p).size + x.size ≤ 9223372036854775807) = true := decide_eq_true e1l
     have e2 : (9223372036854775807 < (a1.extract 0 p ++ x).size + (a1.extract p a1.size).size) = False := eq_false (by omega)
     have e2l : (a1.extract 0 p ++ x).size + (a1.extract p a1.size).size ≤ 9223372036854775807 := by omega
     have e2d : decide ((a1.extract 0 p ++ x).size + (a1.extract p a1.size).size ≤ 9223372036854775807) = true := decide_eq_true e2l
     have e3 : (9223372036854775807 < (a1.extract 0 p ++ x).size + (a1.extract (p + 1) a1.size).size) = False := eq_false (by omega)
     have e3l : (a1.extract 0 p ++ x).size + (a1.extract (p + 1) a1.size).size ≤ 9223372036854775807 := by omega
     have e3d : decide ((a1.extract 0 p ++ x).size + (a1.extract (p + 1) a1.size).size ≤ 9223372036854775807) = true := decide_eq_true e3l
     have e4 : (9223372036854775807 < (a1.extract 0 p).size + (a1.extract (p + 1) a1.size).size) = False := eq_false (by omega)
     have e4l : (a1.extract 0 p).size + (a1.extract (p + 1) a1.size).size ≤ 9223372036854775807 := by omega
     have e4d : decide ((a1.extract 0 p).size + (a1.extract (p + 1) a1.size).size ≤ 9223372036854775807) = true := decide_eq_true e4l
     clear s1' s2' s3' s4' hxl l1 l2 p1
     by_cases r0 : r = 0
     · have r0b : (r == 0) = true := beq_iff_eq.mpr r0
       have e : r1 = (a1.extract 0 p ++ x) ++ a1.extract p a1.size := by rw [← HR1.out]; unfold spo; rw [if_pos r0]
       have HE := zk e
       clear r0 e HR1 e3 e4 p3 p4 p5 p6
       go_wp2_with (fail)
       repeat (go_quiet (fail); try go_wp2)
       go_ret
       exact ⟨by rw [HE.out]; rfl, by repeat (first | exact HI3.out | apply IsS102.drewN), by repeat (first | exact HB3.out | apply zd), by repeat (first | exact HK3.out | apply keep_drewN)⟩
     · have r0b : (r == 0) = false := beq_eq_false_iff_ne.mpr r0
       by_cases r1c : r = 1
       · have r1b : (r == 1) = true := beq_iff_eq.mpr r1c
         have e : r1 = (a1.extract 0 p ++ x) ++ a1.extract (p + 1) a1.size := by rw [← HR1.out]; unfold spo; rw [if_neg r0, if_pos r1c]
         have HE := zk e
         clear r0 r1c e HR1 e2 e4
         go_wp2_with (fail)
         repeat (go_quiet (fail); try go_wp2)
         go_ret
         exact ⟨by rw [HE.out]; rfl, by repeat (first | exact HI3.out | apply IsS102.drewN), by repeat (first | exact HB3.out | apply zd), by repeat (first | exact HK3.out | apply keep_drewN)⟩
       · have r1b : (r == 1) = false := beq_eq_false_iff_ne.mpr r1c
         have e : r1 = a1.extract 0 p ++ a1.extract (p + 1) a1.size := by rw [← HR1.out]; unfold spo; rw [if_neg r0, if_neg r1c]
         have HE := zk e
         clear r0 r1c e HR1 e1 e2 e3
         go_wp2_with (fail)
         repeat (go_quiet (fail); try go_wp2)
         go_ret
         exact ⟨by rw [HE.out]; rfl, by repeat (first | exact HI3.out | apply IsS102.drewN), by repeat (first | exact HB3.out | apply zd), by repeat (first | exact HK3.out | apply keep_drewN)⟩
   · rw [if_neg c2] at h; cases h
end

/-! ### spec_l1Cur_word: function 200 -/
def spec_l1Cur_word.l0 : Nat → Int → ByteArray → Int → List Int → Int → Int → Option (ByteArray × Int × Int)
 | 0, _, _, _, _, _, _ => none
 | k + 1, x1, x5, x6, x1000, x1001, x1002 => if (x5.size : Int) < (wrap64 (2 * x1)) then (if x6 = 0 then (if x5.size + 1 ≤ 9223372036854775807 then (spec_l1Cur_word.l0 k x1 (x5 ++ (⟨#[73]⟩ : ByteArray)) (wrap64 (x6 + 1)) x1000 x1001 x1002) else (none)) else (if x6 < (wrap64 ((wrap64 (2 * x1)) - (x5.size : Int))) then ((spec_l1Cur_one.f x1000 x1001 x1002 2).bind fun bt269 => (if bt269.1 = true then (if x5.size + 1 ≤ 9223372036854775807 then (spec_l1Cur_word.l0 k x1 (x5 ++ (⟨#[73]⟩ : ByteArray)) (wrap64 (x6 + 1)) x1000 bt269.2.1 bt269.2.2) else (none)) else (if x5.size + 1 ≤ 9223372036854775807 then (spec_l1Cur_word.l0 k x1 (x5 ++ (⟨#[79]⟩ : ByteArray)) (wrap64 (x6 - 1)) x1000 bt269.2.1 bt269.2.2) else (none)))) else (if x5.size + 1 ≤ 9223372036854775807 then (spec_l1Cur_word.l0 k x1 (x5 ++ (⟨#[79]⟩ : ByteArray)) (wrap64 (x6 - 1)) x1000 x1001 x1002) else (none)))) else ((spec_l1Cur_one.f x1000 x1001 x1002 24).bind fun bt272 => (if bt272.1 = true then ((spec_l1Cur_spoilt.f x1000 bt272.2.1 bt272.2.2 x5 (⟨#[73, 79, 88]⟩ : ByteArray)).bind fun bt275 => (some (bt275.1, bt275.2.1, bt275.2.2))) else (some (x5, bt272.2.1, bt272.2.2))))
def spec_l1Cur_word.f (k : Nat) (s0_0 : List Int) (s0_1 : Int) (s0_2 : Int) (a1 : Int) : Option (ByteArray × Int × Int) := spec_l1Cur_word.l0 k a1 (⟨#[]⟩ : ByteArray) 0 s0_0 s0_1 s0_2
set_option maxHeartbeats 8000000 in
set_option maxRecDepth 100000 in
theorem spec_l1Cur_word.calls (k : Nat) (g : Nat) (s0_0 : List Int) (s0_1 : Int) (s0_2 : Int) (a1 : Int) (r1 : ByteArray) (r2 : Int) (r3 : Int) (w0 w : World) (hI : IsS102 w0 w g s0_0 s0_1 s0_2) (hB : Below w0.heap.size w0 w) (h : spec_l1Cur_word.f k s0_0 s0_1 s0_2 a1 = some (r1, r2, r3)) :
 Calls Try.prog 200 #[.pointer (some ⟨g, 0, none⟩), .int .i64 a1] w fun e w' => e = .returned (.string r1) ∧ IsS102 w0 w' g s0_0 r2 r3 ∧ Below w0.heap.size w0 w' ∧ KeepBut w w' g none := by
 have HI0 := zk hI
 have HK := zk (KeepBut.refl w g none)
 have HL := zk hB.size
 clear hI
 have HW0 := zk hB.size
 have HB := zk hB
 clear hB
 have H : (spec_l1Cur_word.l0 k a1 (⟨#[]⟩ : ByteArray) 0 s0_0 s0_1 s0_2) = some (r1, r2, r3) := h
 clear h
 have H' := zk H
 clear H
 go_enter Try.func200, Try.ntmps200
 go_wp2
 go_loopg [5, 6] k (fun kq v5 v6 w' => ∃ (x5_1 : ByteArray) (x6_1 : Int) (x1001_1 : Int) (x1002_1 : Int), v5 = .string x5_1 ∧ v6 = .int .i64 x6_1 ∧ Aside0 (spec_l1Cur_word.l0 kq a1 x5_1 x6_1 s0_0 x1001_1 x1002_1 = some (r1, r2, r3)) ∧ Aside0 (kq ≤ k) ∧ Aside0 (IsS102 w0 w' g s0_0 x1001_1 x1002_1) ∧ Aside0 (KeepBut w w' g none) ∧ Aside0 (Below w0.heap.size w0 w'))
 case atStart => exact ⟨((⟨#[]⟩ : ByteArray)), (0), (s0_1), (s0_2), (by first | rfl | (simp; done) | (simp [*]; done)), (by first | rfl | (simp; done) | (simp [*]; done)), H', ⟨Nat.le_refl _⟩, ⟨by repeat (first | exact HI0.out | apply IsS102.alloc | apply IsS102.drewN | apply IsS102.drew | apply IsS102.set_1 | apply IsS102.set_2)⟩, ⟨by repeat (first | exact HK.out | apply KeepBut.set_ | apply keep_drewN | apply keep_drew | apply keep_alloc)⟩, ⟨by repeat (first | (with_reducible first | exact HB.out | apply za | apply zd | apply ze | refine below_set ?_ (IsS102.ge HI0.out)) | exact HB.out)⟩⟩
 case round =>
  clear H'
  try clear c2
  try clear p2
  obtain ⟨x5_1, x6_1, x1001_1, x1002_1, rfl, rfl, HA, HK1, HI0, HK, HB⟩ := hrel
  cases gk with
  | zero => exact absurd HA.out (by simp [spec_l1Cur_word.l0])
  | succ k1 =>
   have H := HA.out
   clear HA
   simp only [spec_l1Cur_word.l0] at H
   by_cases c3 : (x5_1.size : Int) < (wrap64 (2 * a1))
   · rw [if_pos c3] at H
     have c3b0 : decide ((x5_1.size : Int) < (wrap64 (2 * a1))) = true := decide_eq_true c3
     clear c3
     by_cases c4 : x6_1 = 0
     · rw [if_pos c4] at H
       have c4b0 : (x6_1 == 0) = true := beq_iff_eq.mpr c4
       have c4b1 : (x6_1 != 0) = false := bne_eq_false_iff_eq.mpr c4
       clear c4
       by_cases c5 : x5_1.size + 1 ≤ 9223372036854775807
       · rw [if_pos c5] at H
         have c5b0 := eq_true c5
         have c5b1 : decide (x5_1.size + 1 ≤ 9223372036854775807) = true := decide_eq_true c5
         try have c5b2 : (9223372036854775807 < x5_1.size + 1) = False := eq_false (Nat.not_lt.2 c5)
         have H' := zk H
         clear H
         go_wp2
         go_roundg k1
         case measure => have := HK1.out; omega
         case rel => exact ⟨(x5_1 ++ (⟨#[73]⟩ : ByteArray)), (wrap64 (x6_1 + 1)), (x1001_1), (x1002_1), (by first | rfl | (simp; done) | (simp [*]; done)), (by first | rfl | (simp; done) | (simp [*]; done)), H', ⟨by have := HK1.out; omega⟩, ⟨by repeat (first | exact HI0.out | apply IsS102.alloc | apply IsS102.drewN | apply IsS102.drew | apply IsS102.set_1 | apply IsS102.set_2)⟩, ⟨by repeat (first | exact HK.out | apply KeepBut.set_ | apply keep_drewN | apply keep_drew | apply keep_alloc)⟩, ⟨by repeat (first | (with_reducible first | exact HB.out | apply za | apply zd | apply ze | refine below_set ?_ (IsS102.ge HI0.out)) | exact HB.out)⟩⟩
       · rw [if_neg c5] at H
         exact absurd H (by simp)
     · rw [if_neg c4] at H
       have c4b0 : (x6_1 == 0) = false := beq_eq_false_iff_ne.mpr c4
       have c4b1 : (x6_1 != 0) = true := bne_iff_ne.mpr c4
       by_cases c6 : x6_1 < (wrap64 ((wrap64 (2 * a1)) - (x5_1.size : Int)))
       · rw [if_pos c6] at H
         have c6b0 : decide (x6_1 < (wrap64 ((wrap64 (2 * a1)) - (x5_1.size : Int)))) = true := decide_eq_true c6
         clear c6
         replace H := Option.bind_eq_some_iff.mp H
         obtain ⟨⟨t269, t270, t271⟩, A70, H⟩ := H
         try dsimp only at H
         have A7 := zk A70
         clear A70
         by_cases c8 : t269 = true
         · subst c8
           have H1 : (if x5_1.size + 1 ≤ 9223372036854775807 then (spec_l1Cur_word.l0 k1 a1 (x5_1 ++ (⟨#[73]⟩ : ByteArray)) (wrap64 (x6_1 + 1)) s0_0 t270 t271) else (none)) = some (r1, r2, r3) := by rw [if_pos rfl] at H; exact H
           clear H
           have H := H1
           clear H1
           by_cases c9 : x5_1.size + 1 ≤ 9223372036854775807
           · rw [if_pos c9] at H
             have c9b0 := eq_true c9
             have c9b1 : decide (x5_1.size + 1 ≤ 9223372036854775807) = true := decide_eq_true c9
             try have c9b2 : (9223372036854775807 < x5_1.size + 1) = False := eq_false (Nat.not_lt.2 c9)
             have H' := zk H
             clear H
             go_wp2_with (first | (go_at_call 164; (with_reducible refine (spec_l1Cur_one.calls g s0_0 x1001_1 x1002_1 2 true t270 t271 w0 _ ?side1 ?side2 A7.out).mono ?_); (case side1 => repeat (first | exact HI0.out | apply IsS102.alloc | apply IsS102.drewN | apply IsS102.drew | apply IsS102.set_1 | apply IsS102.set_2)); (case side2 => repeat (first | (with_reducible first | exact HB.out | apply za | apply zd | apply ze | refine below_set ?_ (IsS102.ge HI0.out)) | exact HB.out)); rintro e w10 ⟨rfl, hi, hb, hk⟩; have n0_ := zk (KeepBut.trans (by repeat (first | exact HK.out | apply KeepBut.set_ | apply keep_drewN | apply keep_drew | apply keep_alloc)) hk (.inl rfl)); have n1_ := zk (hb); have n2_ := zk (hi); clear HK; clear HB; clear HI0; have HK := n0_; have HB := n1_; have HI0 := n2_; clear n0_ n1_ n2_; (try clear hb); (try clear hb2); (try clear hk); (try clear hi)))
             go_roundg k1
             case measure => have := HK1.out; omega
             case rel => exact ⟨(x5_1 ++ (⟨#[73]⟩ : ByteArray)), (wrap64 (x6_1 + 1)), (t270), (t271), (by first | rfl | (simp; done) | (simp [*]; done)), (by first | rfl | (simp; done) | (simp [*]; done)), H', ⟨by have := HK1.out; omega⟩, ⟨by repeat (first | exact HI0.out | apply IsS102.alloc | apply IsS102.drewN | apply IsS102.drew | apply IsS102.set_1 | apply IsS102.set_2)⟩, ⟨by repeat (first | exact HK.out | apply KeepBut.set_ | apply keep_drewN | apply keep_drew | apply keep_alloc)⟩, ⟨by repeat (first | (with_reducible first | exact HB.out | apply za | apply zd | apply ze | refine below_set ?_ (IsS102.ge HI0.out)) | exact HB.out)⟩⟩
           · rw [if_neg c9] at H
             exact absurd H (by simp)
         · replace c8 := Bool.eq_false_iff.mpr c8
           subst c8
           have H1 : (if x5_1.size + 1 ≤ 9223372036854775807 then (spec_l1Cur_word.l0 k1 a1 (x5_1 ++ (⟨#[79]⟩ : ByteArray)) (wrap64 (x6_1 - 1)) s0_0 t270 t271) else (none)) = some (r1, r2, r3) := by rw [if_neg (show ¬ (false = true) by decide)] at H; exact H
           clear H
           have H := H1
           clear H1
           by_cases c11 : x5_1.size + 1 ≤ 9223372036854775807
           · rw [if_pos c11] at H
             have c11b0 := eq_true c11
             have c11b1 : decide (x5_1.size + 1 ≤ 9223372036854775807) = true := decide_eq_true c11
             try have c11b2 : (9223372036854775807 < x5_1.size + 1) = False := eq_false (Nat.not_lt.2 c11)
             have H' := zk H
             clear H
             go_wp2_with (first | (go_at_call 164; (with_reducible refine (spec_l1Cur_one.calls g s0_0 x1001_1 x1002_1 2 false t270 t271 w0 _ ?side1 ?side2 A7.out).mono ?_); (case side1 => repeat (first | exact HI0.out | apply IsS102.alloc | apply IsS102.drewN | apply IsS102.drew | apply IsS102.set_1 | apply IsS102.set_2)); (case side2 => repeat (first | (with_reducible first | exact HB.out | apply za | apply zd | apply ze | refine below_set ?_ (IsS102.ge HI0.out)) | exact HB.out)); rintro e w12 ⟨rfl, hi, hb, hk⟩; have n0_ := zk (KeepBut.trans (by repeat (first | exact HK.out | apply KeepBut.set_ | apply keep_drewN | apply keep_drew | apply keep_alloc)) hk (.inl rfl)); have n1_ := zk (hb); have n2_ := zk (hi); clear HK; clear HB; clear HI0; have HK := n0_; have HB := n1_; have HI0 := n2_; clear n0_ n1_ n2_; (try clear hb); (try clear hb2); (try clear hk); (try clear hi)))
             go_roundg k1
             case measure => have := HK1.out; omega
             case rel => exact ⟨(x5_1 ++ (⟨#[79]⟩ : ByteArray)), (wrap64 (x6_1 - 1)), (t270), (t271), (by first | rfl | (simp; done) | (simp [*]; done)), (by first | rfl | (simp; done) | (simp [*]; done)), H', ⟨by have := HK1.out; omega⟩, ⟨by repeat (first | exact HI0.out | apply IsS102.alloc | apply IsS102.drewN | apply IsS102.drew | apply IsS102.set_1 | apply IsS102.set_2)⟩, ⟨by repeat (first | exact HK.out | apply KeepBut.set_ | apply keep_drewN | apply keep_drew | apply keep_alloc)⟩, ⟨by repeat (first | (with_reducible first | exact HB.out | apply za | apply zd | apply ze | refine below_set ?_ (IsS102.ge HI0.out)) | exact HB.out)⟩⟩
           · rw [if_neg c11] at H
             exact absurd H (by simp)
       · rw [if_neg c6] at H
         have c6b0 : decide (x6_1 < (wrap64 ((wrap64 (2 * a1)) - (x5_1.size : Int)))) = false := decide_eq_false c6
         clear c6
         by_cases c13 : x5_1.size + 1 ≤ 9223372036854775807
         · rw [if_pos c13] at H
           have c13b0 := eq_true c13
           have c13b1 : decide (x5_1.size + 1 ≤ 9223372036854775807) = true := decide_eq_true c13
           try have c13b2 : (9223372036854775807 < x5_1.size + 1) = False := eq_false (Nat.not_lt.2 c13)
           have H' := zk H
           clear H
           go_wp2
           go_roundg k1
           case measure => have := HK1.out; omega
           case rel => exact ⟨(x5_1 ++ (⟨#[79]⟩ : ByteArray)), (wrap64 (x6_1 - 1)), (x1001_1), (x1002_1), (by first | rfl | (simp; done) | (simp [*]; done)), (by first | rfl | (simp; done) | (simp [*]; done)), H', ⟨by have := HK1.out; omega⟩, ⟨by repeat (first | exact HI0.out | apply IsS102.alloc | apply IsS102.drewN | apply IsS102.drew | apply IsS102.set_1 | apply IsS102.set_2)⟩, ⟨by repeat (first | exact HK.out | apply KeepBut.set_ | apply keep_drewN | apply keep_drew | apply keep_alloc)⟩, ⟨by repeat (first | (with_reducible first | exact HB.out | apply za | apply zd | apply ze | refine below_set ?_ (IsS102.ge HI0.out)) | exact HB.out)⟩⟩
         · rw [if_neg c13] at H
           exact absurd H (by simp)
   · rw [if_neg c3] at H
     have c3b0 : decide ((x5_1.size : Int) < (wrap64 (2 * a1))) = false := decide_eq_false c3
     clear c3
     replace H := Option.bind_eq_some_iff.mp H
     obtain ⟨⟨t272, t273, t274⟩, A140, H⟩ := H
     try dsimp only at H
     have A14 := zk A140
     clear A140
     by_cases c15 : t272 = true
     · subst c15
       have H1 : ((spec_l1Cur_spoilt.f s0_0 t273 t274 x5_1 (⟨#[73, 79, 88]⟩ : ByteArray)).bind fun bt275 => (some (bt275.1, bt275.2.1, bt275.2.2))) = some (r1, r2, r3) := by rw [if_pos rfl] at H; exact H
       clear H
       have H := H1
       clear H1
       replace H := Option.bind_eq_some_iff.mp H
       obtain ⟨⟨t275, t276, t277⟩, A160, H⟩ := H
       try dsimp only at H
       have A16 := zk A160
       clear A160
       simp only [Option.some.injEq, Prod.mk.injEq] at H
       obtain ⟨rfl, rfl, rfl⟩ := H
       go_wp2_with (first | ((with_reducible refine gate_callee (f := 164) rfl ?_); refine goesL_ (some 36) rfl rfl Try.func164 (by kernel_rfl) rfl #[.pointer (some ⟨g, 0, none⟩), .int .i64 24] rfl (by (try simp only [List.map_toArray, List.map_cons, List.map_nil]); first | done | rfl | (simp only [List.length_drop, List.length_take]; rfl)) ?_; (with_reducible refine (spec_l1Cur_one.calls g s0_0 x1001_1 x1002_1 24 true t273 t274 w0 _ ?side1 ?side2 A14.out).mono ?_); (case side1 => repeat (first | exact HI0.out | apply IsS102.alloc | apply IsS102.drewN | apply IsS102.drew | apply IsS102.set_1 | apply IsS102.set_2)); (case side2 => repeat (first | (with_reducible first | exact HB.out | apply za | apply zd | apply ze | refine below_set ?_ (IsS102.ge HI0.out)) | exact HB.out)); rintro e w17 ⟨rfl, hi, hb, hk⟩; refine ⟨_, rfl, ?_⟩; have n0_ := zk (KeepBut.trans (by repeat (first | exact HK.out | apply KeepBut.set_ | apply keep_drewN | apply keep_drew | apply keep_alloc)) hk (.inl rfl)); have n1_ := zk (hb); have n2_ := zk (hi); clear HK; clear HB; clear HI0; have HK := n0_; have HB := n1_; have HI0 := n2_; clear n0_ n1_ n2_; (try clear hb); (try clear hb2); (try clear hk); (try clear hi)) | ((with_reducible refine gate_callee (f := 198) rfl ?_); refine goesL_ (some 39) rfl rfl Try.func198 (by kernel_rfl) rfl #[.pointer (some ⟨g, 0, none⟩), .string x5_1, .string (⟨#[73, 79, 88]⟩ : ByteArray)] rfl (by (try simp only [List.map_toArray, List.map_cons, List.map_nil]); first | done | rfl | (simp only [List.length_drop, List.length_take]; rfl)) ?_; (with_reducible refine (spec_l1Cur_spoilt.calls g s0_0 t273 t274 x5_1 (⟨#[73, 79, 88]⟩ : ByteArray) t275 t276 t277 w0 _ ?side1 ?side2 A16.out).mono ?_); (case side1 => repeat (first | exact HI0.out | apply IsS102.alloc | apply IsS102.drewN | apply IsS102.drew | apply IsS102.set_1 | apply IsS102.set_2)); (case side2 => repeat (first | (with_reducible first | exact HB.out | apply za | apply zd | apply ze | refine below_set ?_ (IsS102.ge HI0.out)) | exact HB.out)); rintro e w18 ⟨rfl, hi, hb, hk⟩; refine ⟨_, rfl, ?_⟩; have n0_ := zk (KeepBut.trans (by repeat (first | exact HK.out | apply KeepBut.set_ | apply keep_drewN | apply keep_drew | apply keep_alloc)) hk (.inl rfl)); have n1_ := zk (hb); have n2_ := zk (hi); clear HK; clear HB; clear HI0; have HK := n0_; have HB := n1_; have HI0 := n2_; clear n0_ n1_ n2_; (try clear hb); (try clear hb2); (try clear hk); (try clear hi)))
       go_ret
       exact ⟨by first | rfl | (simp [errW_none, errW_some] <;> rfl) | (simp [*, errW_none, errW_some] <;> rfl), by repeat (first | exact HI0.out | apply IsS102.alloc | apply IsS102.drewN | apply IsS102.drew | apply IsS102.set_1 | apply IsS102.set_2), by repeat (first | (with_reducible first | exact HB.out | apply za | apply zd | apply ze | refine below_set ?_ (IsS102.ge HI0.out)) | exact HB.out), by repeat (first | exact HK.out | apply KeepBut.set_ | apply keep_drewN | apply keep_drew | apply keep_alloc)⟩
     · replace c15 := Bool.eq_false_iff.mpr c15
       subst c15
       have H1 : (some (x5_1, t273, t274)) = some (r1, r2, r3) := by rw [if_neg (show ¬ (false = true) by decide)] at H; exact H
       clear H
       have H := H1
       clear H1
       simp only [Option.some.injEq, Prod.mk.injEq] at H
       obtain ⟨rfl, rfl, rfl⟩ := H
       go_wp2_with (first | ((with_reducible refine gate_callee (f := 164) rfl ?_); refine goesL_ (some 36) rfl rfl Try.func164 (by kernel_rfl) rfl #[.pointer (some ⟨g, 0, none⟩), .int .i64 24] rfl (by (try simp only [List.map_toArray, List.map_cons, List.map_nil]); first | done | rfl | (simp only [List.length_drop, List.length_take]; rfl)) ?_; (with_reducible refine (spec_l1Cur_one.calls g s0_0 x1001_1 x1002_1 24 false t273 t274 w0 _ ?side1 ?side2 A14.out).mono ?_); (case side1 => repeat (first | exact HI0.out | apply IsS102.alloc | apply IsS102.drewN | apply IsS102.drew | apply IsS102.set_1 | apply IsS102.set_2)); (case side2 => repeat (first | (with_reducible first | exact HB.out | apply za | apply zd | apply ze | refine below_set ?_ (IsS102.ge HI0.out)) | exact HB.out)); rintro e w19 ⟨rfl, hi, hb, hk⟩; refine ⟨_, rfl, ?_⟩; have n0_ := zk (KeepBut.trans (by repeat (first | exact HK.out | apply KeepBut.set_ | apply keep_drewN | apply keep_drew | apply keep_alloc)) hk (.inl rfl)); have n1_ := zk (hb); have n2_ := zk (hi); clear HK; clear HB; clear HI0; have HK := n0_; have HB := n1_; have HI0 := n2_; clear n0_ n1_ n2_; (try clear hb); (try clear hb2); (try clear hk); (try clear hi)))
       go_ret
       exact ⟨by first | rfl | (simp [errW_none, errW_some] <;> rfl) | (simp [*, errW_none, errW_some] <;> rfl), by repeat (first | exact HI0.out | apply IsS102.alloc | apply IsS102.drewN | apply IsS102.drew | apply IsS102.set_1 | apply IsS102.set_2), by repeat (first | (with_reducible first | exact HB.out | apply za | apply zd | apply ze | refine below_set ?_ (IsS102.ge HI0.out)) | exact HB.out), by repeat (first | exact HK.out | apply KeepBut.set_ | apply keep_drewN | apply keep_drew | apply keep_alloc)⟩

/-! ### spec_l2Word: function 201 -/
def spec_l2Word.l0 : Nat → ByteArray → Int → Int → Option (Bool)
 | 0, _, _, _ => none
 | k + 1, x0, x5, x6 => if x6 < (x0.size : Int) then (if 0 ≤ x6 then (if (bt x0 x6) = 73 then (spec_l2Word.l0 k x0 (wrap64 (x5 + 1)) (wrap64 (x6 + 1))) else (if (bt x0 x6) = 79 then (if x5 > 0 then (spec_l2Word.l0 k x0 (wrap64 (x5 - 1)) (wrap64 (x6 + 1))) else (some false)) else (some false))) else (none)) else (some (x5 == 0))
def spec_l2Word.f (k : Nat) (a0 : ByteArray) (a1 : Int) : Option (Bool) := if (a0.size : Int) = (wrap64 (2 * a1)) then (spec_l2Word.l0 k a0 0 0) else (some false)
theorem spec_l2Word.mono_l : ∀ k, (∀ y0 y1 y2, LeO (spec_l2Word.l0 k y0 y1 y2) (spec_l2Word.l0 (k + 1) y0 y1 y2))
 | 0 => fun _ _ _ r h => by simp [spec_l2Word.l0] at h
 | k + 1 => by
  have ih0 := spec_l2Word.mono_l k
  · intro y0 y1 y2
    unfold spec_l2Word.l0
    repeat' first
    | (with_reducible exact ih0 _ _ _)
    | (with_reducible exact LeO.refl _)
    | (with_reducible exact LeO.none _)
    | (with_reducible refine LeO.ite ?_ ?_)
    | (with_reducible refine LeO.bind ?_ (fun _ => ?_))
    | exact ih0 _ _ _
    | exact LeO.none _
    | refine LeO.ite ?_ ?_
    | refine LeO.bind ?_ (fun _ => ?_)
theorem spec_l2Word.mono : ∀ a0 a1 k, LeO (spec_l2Word.f k a0 a1) (spec_l2Word.f (k + 1) a0 a1) := by
 intro a0 a1 k
 have ih0 := spec_l2Word.mono_l k
 unfold spec_l2Word.f
 repeat' first
  | (with_reducible exact ih0 _ _ _)
  | (with_reducible exact LeO.refl _)
  | (with_reducible exact LeO.none _)
  | (with_reducible refine LeO.ite ?_ ?_)
  | (with_reducible refine LeO.bind ?_ (fun _ => ?_))
  | exact ih0 _ _ _
  | exact LeO.none _
  | refine LeO.ite ?_ ?_
  | refine LeO.bind ?_ (fun _ => ?_)
set_option maxHeartbeats 8000000 in
set_option maxRecDepth 100000 in
theorem spec_l2Word.calls (k : Nat) (a0 : ByteArray) (a1 : Int) (r : Bool) (w : World) (h : spec_l2Word.f k a0 a1 = some r) :
 Calls Try.prog 201 #[.string a0, .int .i64 a1] w fun e w' => e = .returned (.bool r) ∧ Drawn0 w w' := by
 have H : (if (a0.size : Int) = (wrap64 (2 * a1)) then (spec_l2Word.l0 k a0 0 0) else (some false)) = some r := h
 clear h
 by_cases c3 : (a0.size : Int) = (wrap64 (2 * a1))
 · rw [if_pos c3] at H
   have c3b0 : ((a0.size : Int) == (wrap64 (2 * a1))) = true := beq_iff_eq.mpr c3
   have c3b1 : ((a0.size : Int) != (wrap64 (2 * a1))) = false := bne_eq_false_iff_eq.mpr c3
   clear c3
   have H' := zk H
   clear H
   go_enter Try.func201, Try.ntmps201
   go_wp2
   go_loopg [5, 6] k (fun kq v5 v6 w' => ∃ (x5_1 : Int) (x6_1 : Int), v5 = .int .i64 x5_1 ∧ v6 = .int .i64 x6_1 ∧ Aside0 (spec_l2Word.l0 kq a0 x5_1 x6_1 = some r) ∧ Aside0 (kq ≤ k) ∧ Drawn0 w w')
   case atStart => exact ⟨(0), (0), (by first | rfl | (simp; done) | (simp [*]; done)), (by first | rfl | (simp; done) | (simp [*]; done)), H', ⟨Nat.le_refl _⟩, by repeat (first | exact Drawn0.refl _ | apply Drawn0.step)⟩
   case round =>
    clear H'
    try clear c2
    try clear p2
    try clear c3
    try clear c3b0
    try clear c3b1
    obtain ⟨x5_1, x6_1, rfl, rfl, HA, HK1, ⟨m1, rfl⟩⟩ := hrel
    cases gk with
    | zero => exact absurd HA.out (by simp [spec_l2Word.l0])
    | succ k1 =>
     have H := HA.out
     clear HA
     simp only [spec_l2Word.l0] at H
     by_cases c4 : x6_1 < (a0.size : Int)
     · rw [if_pos c4] at H
       have c4b0 : decide (x6_1 < (a0.size : Int)) = true := decide_eq_true c4
       clear c4
       by_cases c5 : 0 ≤ x6_1
       · rw [if_pos c5] at H
         have c5b0 : decide (0 ≤ x6_1) = true := decide_eq_true c5
         clear c5
         by_cases c7 : (bt a0 x6_1) = 73
         · rw [if_pos c7] at H
           have c7b0 : ((bt a0 x6_1) == 73) = true := beq_iff_eq.mpr c7
           have c7b1 : ((bt a0 x6_1) != 73) = false := bne_eq_false_iff_eq.mpr c7
           clear c7
           have H' := zk H
           clear H
           have p6 : 0 ≤ (x6_1 : Int) := zo (by assumption)
           have q6 : x6_1 < (a0.size : Int) := zo (by assumption)
           have hx6 := bt_at a0 x6_1
           replace p6 := eq_true p6
           replace q6 := eq_true q6
           go_wp2
           go_roundg k1
           case measure => have := HK1.out; omega
           case rel => exact ⟨(wrap64 (x5_1 + 1)), (wrap64 (x6_1 + 1)), (by first | rfl | (simp; done) | (simp [*]; done)), (by first | rfl | (simp; done) | (simp [*]; done)), H', ⟨by have := HK1.out; omega⟩, by repeat (first | exact Drawn0.refl _ | apply Drawn0.step)⟩
         · rw [if_neg c7] at H
           have c7b0 : ((bt a0 x6_1) == 73) = false := beq_eq_false_iff_ne.mpr c7
           have c7b1 : ((bt a0 x6_1) != 73) = true := bne_iff_ne.mpr c7
           by_cases c9 : (bt a0 x6_1) = 79
           · rw [if_pos c9] at H
             have c9b0 : ((bt a0 x6_1) == 79) = true := beq_iff_eq.mpr c9
             have c9b1 : ((bt a0 x6_1) != 79) = false := bne_eq_false_iff_eq.mpr c9
             clear c9
             by_cases c10 : x5_1 > 0
             · rw [if_pos c10] at H
               have c10b0 : decide (0 < x5_1) = true := decide_eq_true c10
               clear c10
               have H' := zk H
               clear H
               have p6 : 0 ≤ (x6_1 : Int) := zo (by assumption)
               have q6 : x6_1 < (a0.size : Int) := zo (by assumption)
               have hx6 := bt_at a0 x6_1
               replace p6 := eq_true p6
               replace q6 := eq_true q6
               have p8 : 0 ≤ (x6_1 : Int) := zo (by assumption)
               have q8 : x6_1 < (a0.size : Int) := zo (by assumption)
               have hx8 := bt_at a0 x6_1
               replace p8 := eq_true p8
               replace q8 := eq_true q8
               go_wp2
               go_roundg k1
               case measure => have := HK1.out; omega
               case rel => exact ⟨(wrap64 (x5_1 - 1)), (wrap64 (x6_1 + 1)), (by first | rfl | (simp; done) | (simp [*]; done)), (by first | rfl | (simp; done) | (simp [*]; done)), H', ⟨by have := HK1.out; omega⟩, by repeat (first | exact Drawn0.refl _ | apply Drawn0.step)⟩
             · rw [if_neg c10] at H
               have c10b0 : decide (0 < x5_1) = false := decide_eq_false c10
               clear c10
               obtain rfl := Option.some.inj H
               have p6 : 0 ≤ (x6_1 : Int) := zo (by assumption)
               have q6 : x6_1 < (a0.size : Int) := zo (by assumption)
               have hx6 := bt_at a0 x6_1
               replace p6 := eq_true p6
               replace q6 := eq_true q6
               have p8 : 0 ≤ (x6_1 : Int) := zo (by assumption)
               have q8 : x6_1 < (a0.size : Int) := zo (by assumption)
               have hx8 := bt_at a0 x6_1
               replace p8 := eq_true p8
               replace q8 := eq_true q8
               go_wp2
               go_ret
               exact ⟨by first | rfl | (simp; done) | (simp [*]; done), by repeat (first | exact Drawn0.refl _ | apply Drawn0.step)⟩
           · rw [if_neg c9] at H
             have c9b0 : ((bt a0 x6_1) == 79) = false := beq_eq_false_iff_ne.mpr c9
             have c9b1 : ((bt a0 x6_1) != 79) = true := bne_iff_ne.mpr c9
             obtain rfl := Option.some.inj H
             have p6 : 0 ≤ (x6_1 : Int) := zo (by assumption)
             have q6 : x6_1 < (a0.size : Int) := zo (by assumption)
             have hx6 := bt_at a0 x6_1
             replace p6 := eq_true p6
             replace q6 := eq_true q6
             have p8 : 0 ≤ (x6_1 : Int) := zo (by assumption)
             have q8 : x6_1 < (a0.size : Int) := zo (by assumption)
             have hx8 := bt_at a0 x6_1
             replace p8 := eq_true p8
             replace q8 := eq_true q8
             go_wp2
             go_ret
             exact ⟨by first | rfl | (simp; done) | (simp [*]; done), by repeat (first | exact Drawn0.refl _ | apply Drawn0.step)⟩
       · rw [if_neg c5] at H
         exact absurd H (by simp)
     · rw [if_neg c4] at H
       have c4b0 : decide (x6_1 < (a0.size : Int)) = false := decide_eq_false c4
       clear c4
       obtain rfl := Option.some.inj H
       go_wp2
       go_ret
       exact ⟨by first | rfl | (simp; done) | (simp [*]; done), by repeat (first | exact Drawn0.refl _ | apply Drawn0.step)⟩
 · rw [if_neg c3] at H
   have c3b0 : ((a0.size : Int) == (wrap64 (2 * a1))) = false := beq_eq_false_iff_ne.mpr c3
   have c3b1 : ((a0.size : Int) != (wrap64 (2 * a1))) = true := bne_iff_ne.mpr c3
   obtain rfl := Option.some.inj H
   go_enter Try.func201, Try.ntmps201
   go_wp2
   go_ret
   exact ⟨by first | rfl | (simp; done) | (simp [*]; done), by repeat (first | exact Drawn0.refl _ | apply Drawn0.step)⟩

/-! ### spec_DrawSortingWord: function 71 -/
def spec_DrawSortingWord.j0 : Nat → List Int → ByteArray → Bool → Option (List Int)
 | 0, _, _, _ => none
 | k + 1, x4, x5, x27 => if x27 = true then ((spec_l2Sorted.f k (x4.length : Int)).bind fun t292 => ((spec_l2Run.f k t292 x5).bind fun t295 => ((spec_l2Inverse.f k t295).bind fun t298 => (some t298)))) else (some x4)
def spec_DrawSortingWord.f (k : Nat) (l0 : List Int) : Option (List Int) := (spec_l1Cur_order.f k l0 0 0).bind fun bt279 => ((spec_l1Cur_word.f k l0 bt279.2.1 bt279.2.2 (bt279.1.length : Int)).bind fun bt284 => ((spec_l2Order.f k bt279.1).bind fun t287 => (if t287 = true then ((spec_l2Word.f k bt284.1 (bt279.1.length : Int)).bind fun t288 => (if t288 = true then ((spec_l1Cur_one.f l0 bt284.2.1 bt284.2.2 3).bind fun bt289 => (spec_DrawSortingWord.j0 k bt279.1 bt284.1 (!bt289.1))) else (spec_DrawSortingWord.j0 k bt279.1 bt284.1 false))) else (spec_DrawSortingWord.j0 k bt279.1 bt284.1 false))))
set_option maxHeartbeats 8000000 in
set_option maxRecDepth 100000 in
theorem spec_DrawSortingWord.calls (k : Nat) (A0 : Option Addr) (c0 : Nat) (l0 : List Int) (r : List Int) (w : World) (hr0 : Kd.C (Kd.int .u8) w A0 l0.length l0) (hc0 : l0.length ≤ c0) (h : spec_DrawSortingWord.f k l0 = some r) :
 Calls Try.prog 71 #[.slice A0 l0.length c0] w fun e w' => ∃ v0_ : Value, e = .returned (v0_) ∧ Kd.R (Kd.int .i64) 3 w' w.heap.size (fun _ => True) v0_ r ∧ Below w.heap.size w w' := by
 have hu102 := Try.underlying102
 have HR0 := zk hr0
 have HC0 := zk hc0
 clear hr0 hc0
 have HB := zk (Below.refl w.heap.size w)
 have H : ((spec_l1Cur_order.f k l0 0 0).bind fun bt279 => ((spec_l1Cur_word.f k l0 bt279.2.1 bt279.2.2 (bt279.1.length : Int)).bind fun bt284 => ((spec_l2Order.f k bt279.1).bind fun t287 => (if t287 = true then ((spec_l2Word.f k bt284.1 (bt279.1.length : Int)).bind fun t288 => (if t288 = true then ((spec_l1Cur_one.f l0 bt284.2.1 bt284.2.2 3).bind fun bt289 => (spec_DrawSortingWord.j0 k bt279.1 bt284.1 (!bt289.1))) else (spec_DrawSortingWord.j0 k bt279.1 bt284.1 false))) else (spec_DrawSortingWord.j0 k bt279.1 bt284.1 false))))) = some r := h
 clear h
 replace H := Option.bind_eq_some_iff.mp H
 obtain ⟨⟨t279, t282, t283⟩, A20, H⟩ := H
 try dsimp only at H
 have A2 := zk A20
 clear A20
 replace H := Option.bind_eq_some_iff.mp H
 obtain ⟨⟨t284, t285, t286⟩, A30, H⟩ := H
 try dsimp only at H
 have A3 := zk A30
 clear A30
 have HC4 := zk H
 clear H
 go_enter Try.func71, Try.ntmps71
 go_upto_region 4 with (first | ((with_reducible refine gate_dst (N := 8) rfl ?_); (try (refine gate_guard (by rfl) ?_; dsimp only)); refine box_event ?hg (N := 8) ?hd (cs := #[.slice A0 l0.length c0, .int .i64 0, .int .u64 0]) (t := 102) ?hr ?_; (case hd => rfl); (case hg => rfl); (case hr => first | (go_simp; done) | (go_simp; rfl)); intro gb278 hg w5 hbox hb; have n0_ := zk (below_step (by repeat (first | exact HB.out | apply za | apply zd | apply ze)) hb); have n1_ := zk ((⟨_, _, hbox, (by rw [hg]; exact (below_size (by repeat (first | exact HB.out | apply za | apply zd | apply ze))) : w.heap.size ≤ gb278), HR0.out⟩ : IsS102 w _ gb278 l0 0 0)); have n2_ := zk ((by rw [hg]; exact (below_size (by repeat (first | exact HB.out | apply za | apply zd | apply ze))) : w.heap.size ≤ gb278)); have n3_ := zk ((by rw [hg]; exact (below_size (by repeat (first | exact HB.out | apply za | apply zd | apply ze))) : w.heap.size ≤ gb278)); clear HB; have HB := n0_; have HI278 := n1_; have GW278 := n2_; have GE278 := n3_; clear n0_ n1_ n2_ n3_; clear hb hbox hg) | ((with_reducible refine gate_callee (f := 166) rfl ?_); refine goesL_ (some 10) rfl rfl Try.func166 (by kernel_rfl) rfl #[.pointer (some ⟨gb278, 0, none⟩)] rfl (by (try simp only [List.map_toArray, List.map_cons, List.map_nil]); first | done | rfl | (simp only [List.length_drop, List.length_take]; rfl)) ?_; (with_reducible refine (spec_l1Cur_order.calls k gb278 l0 0 0 t279 t282 t283 w _ ?side1 ?side2 A2.out).mono ?_); (case side1 => repeat (first | exact HI278.out | apply IsS102.alloc | apply IsS102.drewN | apply IsS102.drew | apply IsS102.set_1 | apply IsS102.set_2)); (case side2 => repeat (first | (with_reducible first | exact HB.out | apply za | apply zd | apply ze | refine below_set ?_ (IsS102.ge HI278.out)) | exact HB.out)); rintro e w6 ⟨v280, rfl, ho0, hi, hb, hk⟩; refine ⟨_, rfl, ?_⟩; have n0_ := zk (Kd.R_lower ho0 (below_size (by repeat (first | (with_reducible first | exact HB.out | apply za | apply zd | apply ze | refine below_set ?_ (IsS102.ge HI278.out)) | exact HB.out)))); have n1_ := zk (hb); have n2_ := zk (hi); clear HB; clear HI278; have HO281 := n0_; have HB := n1_; have HI278 := n2_; clear n0_ n1_ n2_; (try clear hb); (try clear hb2); (try clear hk); (try clear hi); (try clear ho0); obtain ⟨Ao7, co7, eo7⟩ := Kd.R_slice HO281.out; subst eo7) | ((with_reducible refine gate_callee (f := 200) rfl ?_); refine goesL_ (some 14) rfl rfl Try.func200 (by kernel_rfl) rfl #[.pointer (some ⟨gb278, 0, none⟩), .int .i64 (t279.length : Int)] rfl (by (try simp only [List.map_toArray, List.map_cons, List.map_nil]); first | done | rfl | (simp only [List.length_drop, List.length_take]; rfl)) ?_; (with_reducible refine (spec_l1Cur_word.calls k gb278 l0 t282 t283 (t279.length : Int) t284 t285 t286 w _ ?side1 ?side2 A3.out).mono ?_); (case side1 => repeat (first | exact HI278.out | apply IsS102.alloc | apply IsS102.drewN | apply IsS102.drew | apply IsS102.set_1 | apply IsS102.set_2)); (case side2 => repeat (first | (with_reducible first | exact HB.out | apply za | apply zd | apply ze | refine below_set ?_ (IsS102.ge HI278.out)) | exact HB.out)); rintro e w8 ⟨rfl, hi, hb, hk⟩; refine ⟨_, rfl, ?_⟩; have n0_ := zk (Kd.R_mono (Kd.R_keep (IsS102.apart (show IsS102 w _ gb278 l0 t282 t283 from by repeat (first | exact HI278.out | apply IsS102.alloc | apply IsS102.drewN | apply IsS102.drew | apply IsS102.set_1 | apply IsS102.set_2)) (by (with_reducible repeat (first | apply zs | apply zr | apply zt)); exact HO281.out) (by decide)) hk (fun _ h => h.2)) (fun _ h => h.1)); have n1_ := zk (hb); have n2_ := zk (hi); clear HO281; clear HB; clear HI278; have HO281 := n0_; have HB := n1_; have HI278 := n2_; clear n0_ n1_ n2_; (try clear hb); (try clear hb2); (try clear hk); (try clear hi)))
 (try simp only [Act.put, List.setIfInBounds_toArray, List.set_cons_zero, List.set_cons_succ])
 go_cut [27] (fun v27 wc => ∃ (kq : Nat) (x27_3 : Bool), v27 = .bool x27_3 ∧ Aside0 (spec_DrawSortingWord.j0 kq t279 t284 x27_3 = some r) ∧ Aside0 (kq ≤ k) ∧ Aside0 (Kd.R (Kd.int .i64) 3 wc w.heap.size (fun _ => True) (.slice Ao7 t279.length co7) t279) ∧ Aside0 (Below w.heap.size w wc))
 case first =>
  have H := HC4.out
  clear HC4
  replace H := Option.bind_eq_some_iff.mp H
  obtain ⟨t287, A90, H⟩ := H
  try dsimp only at H
  have A9 := zk A90
  clear A90
  by_cases c10 : t287 = true
  · subst c10
    have H1 : ((spec_l2Word.f k t284 (t279.length : Int)).bind fun t288 => (if t288 = true then ((spec_l1Cur_one.f l0 t285 t286 3).bind fun bt289 => (spec_DrawSortingWord.j0 k t279 t284 (!bt289.1))) else (spec_DrawSortingWord.j0 k t279 t284 false))) = some r := by rw [if_pos rfl] at H; exact H
    clear H
    have H := H1
    clear H1
    replace H := Option.bind_eq_some_iff.mp H
    obtain ⟨t288, A110, H⟩ := H
    try dsimp only at H
    have A11 := zk A110
    clear A110
    by_cases c12 : t288 = true
    · subst c12
      have H1 : ((spec_l1Cur_one.f l0 t285 t286 3).bind fun bt289 => (spec_DrawSortingWord.j0 k t279 t284 (!bt289.1))) = some r := by rw [if_pos rfl] at H; exact H
      clear H
      have H := H1
      clear H1
      replace H := Option.bind_eq_some_iff.mp H
      obtain ⟨⟨t289, t290, t291⟩, A130, H⟩ := H
      try dsimp only at H
      have A13 := zk A130
      clear A130
      have H' := zk H
      clear H
      go_wp2_with (first | ((with_reducible refine gate_callee (f := 142) rfl ?_); refine goesL_ (some 16) rfl rfl Try.func142 (by kernel_rfl) rfl #[.slice Ao7 t279.length co7] rfl (by (try simp only [List.map_toArray, List.map_cons, List.map_nil]); first | done | rfl | (simp only [List.length_drop, List.length_take]; rfl)) ?_; (with_reducible refine (spec_l2Order.calls k _ _ t279 true _ ?side1 ?side2 A9.out).mono ?_); (case side1 => repeat (first | exact (Kd.R_reads' HO281.out).2.2 | (with_reducible refine zv ?_ _) | (with_reducible refine zu ?_ _) | (with_reducible refine zw ?_))); (case side2 => exact (Kd.R_reads' HO281.out).2.1); rintro e w' ⟨rfl, ⟨nd, rfl⟩⟩; refine ⟨_, rfl, ?_⟩) | (go_at_call 201; (with_reducible refine (spec_l2Word.calls k t284 (t279.length : Int) true _ A11.out).mono ?_); rintro e w' ⟨rfl, ⟨nd, rfl⟩⟩) | (go_at_call 164; (with_reducible refine (spec_l1Cur_one.calls gb278 l0 t285 t286 3 t289 t290 t291 w _ ?side1 ?side2 A13.out).mono ?_); (case side1 => repeat (first | exact HI278.out | apply IsS102.alloc | apply IsS102.drewN | apply IsS102.drew | apply IsS102.set_1 | apply IsS102.set_2)); (case side2 => repeat (first | (with_reducible first | exact HB.out | apply za | apply zd | apply ze | refine below_set ?_ (IsS102.ge HI278.out)) | exact HB.out)); rintro e w14 ⟨rfl, hi, hb, hk⟩; have n0_ := zk (Kd.R_mono (Kd.R_keep (IsS102.apart (show IsS102 w _ gb278 l0 t285 t286 from by repeat (first | exact HI278.out | apply IsS102.alloc | apply IsS102.drewN | apply IsS102.drew | apply IsS102.set_1 | apply IsS102.set_2)) (by (with_reducible repeat (first | apply zs | apply zr | apply zt)); exact HO281.out) (by decide)) hk (fun _ h => h.2)) (fun _ h => h.1)); have n1_ := zk (hb); have n2_ := zk (hi); clear HO281; clear HB; clear HI278; have HO281 := n0_; have HB := n1_; have HI278 := n2_; clear n0_ n1_ n2_; (try clear hb); (try clear hb2); (try clear hk); (try clear hi)))
      go_meet
      case rel => exact ⟨_, (!t289), (by first | rfl | (simp; done) | (simp [*]; done)), H', ⟨by first | omega | exact Nat.le_refl _⟩, ⟨by (with_reducible repeat (first | apply zs | apply zr | apply zt)); exact HO281.out⟩, ⟨by repeat (first | (with_reducible first | exact HB.out | apply za | apply zd | apply ze | refine below_set ?_ (IsS102.ge HI278.out)) | exact HB.out)⟩⟩
    · replace c12 := Bool.eq_false_iff.mpr c12
      subst c12
      have H1 : (spec_DrawSortingWord.j0 k t279 t284 false) = some r := by rw [if_neg (show ¬ (false = true) by decide)] at H; exact H
      clear H
      have H := H1
      clear H1
      have H' := zk H
      clear H
      go_wp2_with (first | ((with_reducible refine gate_callee (f := 142) rfl ?_); refine goesL_ (some 16) rfl rfl Try.func142 (by kernel_rfl) rfl #[.slice Ao7 t279.length co7] rfl (by (try simp only [List.map_toArray, List.map_cons, List.map_nil]); first | done | rfl | (simp only [List.length_drop, List.length_take]; rfl)) ?_; (with_reducible refine (spec_l2Order.calls k _ _ t279 true _ ?side1 ?side2 A9.out).mono ?_); (case side1 => repeat (first | exact (Kd.R_reads' HO281.out).2.2 | (with_reducible refine zv ?_ _) | (with_reducible refine zu ?_ _) | (with_reducible refine zw ?_))); (case side2 => exact (Kd.R_reads' HO281.out).2.1); rintro e w' ⟨rfl, ⟨nd, rfl⟩⟩; refine ⟨_, rfl, ?_⟩) | (go_at_call 201; (with_reducible refine (spec_l2Word.calls k t284 (t279.length : Int) false _ A11.out).mono ?_); rintro e w' ⟨rfl, ⟨nd, rfl⟩⟩))
      go_meet
      case rel => exact ⟨_, (false), (by first | rfl | (simp; done) | (simp [*]; done)), H', ⟨by first | omega | exact Nat.le_refl _⟩, ⟨by (with_reducible repeat (first | apply zs | apply zr | apply zt)); exact HO281.out⟩, ⟨by repeat (first | (with_reducible first | exact HB.out | apply za | apply zd | apply ze | refine below_set ?_ (IsS102.ge HI278.out)) | exact HB.out)⟩⟩
  · replace c10 := Bool.eq_false_iff.mpr c10
    subst c10
    have H1 : (spec_DrawSortingWord.j0 k t279 t284 false) = some r := by rw [if_neg (show ¬ (false = true) by decide)] at H; exact H
    clear H
    have H := H1
    clear H1
    have H' := zk H
    clear H
    go_wp2_with (first | ((with_reducible refine gate_callee (f := 142) rfl ?_); refine goesL_ (some 16) rfl rfl Try.func142 (by kernel_rfl) rfl #[.slice Ao7 t279.length co7] rfl (by (try simp only [List.map_toArray, List.map_cons, List.map_nil]); first | done | rfl | (simp only [List.length_drop, List.length_take]; rfl)) ?_; (with_reducible refine (spec_l2Order.calls k _ _ t279 false _ ?side1 ?side2 A9.out).mono ?_); (case side1 => repeat (first | exact (Kd.R_reads' HO281.out).2.2 | (with_reducible refine zv ?_ _) | (with_reducible refine zu ?_ _) | (with_reducible refine zw ?_))); (case side2 => exact (Kd.R_reads' HO281.out).2.1); rintro e w' ⟨rfl, ⟨nd, rfl⟩⟩; refine ⟨_, rfl, ?_⟩))
    go_meet
    case rel => exact ⟨_, (false), (by first | rfl | (simp; done) | (simp [*]; done)), H', ⟨by first | omega | exact Nat.le_refl _⟩, ⟨by (with_reducible repeat (first | apply zs | apply zr | apply zt)); exact HO281.out⟩, ⟨by repeat (first | (with_reducible first | exact HB.out | apply za | apply zd | apply ze | refine below_set ?_ (IsS102.ge HI278.out)) | exact HB.out)⟩⟩
 case rest =>
  clear HC4
  try clear c1
  try clear c2
  try clear p2
  try clear c7
  try clear c10
  try clear c12
  try clear c14
  obtain ⟨kq, x27_3, rfl, HA, HJ3, HO_4, HB⟩ := hcut
  cases kq with
  | zero => exact absurd HA.out (by simp [spec_DrawSortingWord.j0])
  | succ kj3 =>
   have H := HA.out
   clear HA
   simp only [spec_DrawSortingWord.j0] at H
   by_cases c15 : x27_3 = true
   · subst c15
     have H1 : ((spec_l2Sorted.f kj3 (t279.length : Int)).bind fun t292 => ((spec_l2Run.f kj3 t292 t284).bind fun t295 => ((spec_l2Inverse.f kj3 t295).bind fun t298 => (some t298)))) = some r := by rw [if_pos rfl] at H; exact H
     clear H
     have H := H1
     clear H1
     replace H := Option.bind_eq_some_iff.mp H
     obtain ⟨t292, A160, H⟩ := H
     try dsimp only at H
     have A16 := zk A160
     clear A160
     replace H := Option.bind_eq_some_iff.mp H
     obtain ⟨t295, A170, H⟩ := H
     try dsimp only at H
     have A17 := zk A170
     clear A170
     replace H := Option.bind_eq_some_iff.mp H
     obtain ⟨t298, A180, H⟩ := H
     try dsimp only at H
     have A18 := zk A180
     clear A180
     obtain rfl := Option.some.inj H
     go_wp2_with (first | ((with_reducible refine gate_callee (f := 171) rfl ?_); refine goesL_ (some 30) rfl rfl Try.func171 (by kernel_rfl) rfl #[.int .i64 (t279.length : Int)] rfl (by (try simp only [List.map_toArray, List.map_cons, List.map_nil]); first | done | rfl | (simp only [List.length_drop, List.length_take]; rfl)) ?_; (with_reducible refine (spec_l2Sorted.calls kj3 (t279.length : Int) t292 _ A16.out).mono ?_); rintro e w19 ⟨v293, rfl, ho0, hb⟩; refine ⟨_, rfl, ?_⟩; have n0_ := zk (Kd.R_elder' (by (with_reducible repeat (first | apply zs | apply zr | apply zt)); exact HO_4.out) (Kd.R_base ho0) hb); have n1_ := zk (Kd.R_lower (Kd.R_new' ho0 (Kd.R_lt (by (with_reducible repeat (first | apply zs | apply zr | apply zt)); exact HO_4.out))) (below_size (by repeat (first | exact HB.out | apply za | apply zd | apply ze)))); have n2_ := zk (below_step (by repeat (first | exact HB.out | apply za | apply zd | apply ze)) hb); clear HO_4; clear HB; have HO_4 := n0_; have HO294 := n1_; have HB := n2_; clear n0_ n1_ n2_; (try clear hb); (try clear hb2); (try clear hk); (try clear hi); (try clear ho0); obtain ⟨Ao20, co20, eo20⟩ := Kd.R_slice HO294.out; subst eo20) | ((with_reducible refine gate_callee (f := 152) rfl ?_); refine goesL_ (some 32) rfl rfl Try.func152 (by kernel_rfl) rfl #[.slice Ao20 t292.length co20, .string t284] rfl (by (try simp only [List.map_toArray, List.map_cons, List.map_nil]); first | done | rfl | (simp only [List.length_drop, List.length_take]; rfl)) ?_; (with_reducible refine (spec_l2Run.calls kj3 _ _ t292 t284 t295 _ ?side1 ?side2 A17.out).mono ?_); (case side1 => repeat (first | exact (Kd.R_reads' HO294.out).2.2 | (with_reducible refine zv ?_ _) | (with_reducible refine zu ?_ _) | (with_reducible refine zw ?_))); (case side2 => exact (Kd.R_reads' HO294.out).2.1); rintro e w21 ⟨v296, rfl, ho0, hb⟩; refine ⟨_, rfl, ?_⟩; have n0_ := zk (Kd.R_elder' (by (with_reducible repeat (first | apply zs | apply zr | apply zt)); exact HO_4.out) (Kd.R_base ho0) hb); have n1_ := zk (Kd.R_elder' (by (with_reducible repeat (first | apply zs | apply zr | apply zt)); exact HO294.out) (Kd.R_base ho0) hb); have n2_ := zk (Kd.R_lower (Kd.R_new' (Kd.R_new' ho0 (Kd.R_lt (by (with_reducible repeat (first | apply zs | apply zr | apply zt)); exact HO_4.out))) (Kd.R_lt (by (with_reducible repeat (first | apply zs | apply zr | apply zt)); exact HO294.out))) (below_size (by repeat (first | exact HB.out | apply za | apply zd | apply ze)))); have n3_ := zk (below_step (by repeat (first | exact HB.out | apply za | apply zd | apply ze)) hb); clear HO_4; clear HO294; clear HB; have HO_4 := n0_; have HO294 := n1_; have HO297 := n2_; have HB := n3_; clear n0_ n1_ n2_ n3_; (try clear hb); (try clear hb2); (try clear hk); (try clear hi); (try clear ho0); obtain ⟨Ao22, co22, eo22⟩ := Kd.R_slice HO297.out; subst eo22) | ((with_reducible refine gate_callee (f := 180) rfl ?_); refine goesL_ (some 33) rfl rfl Try.func180 (by kernel_rfl) rfl #[.slice Ao22 t295.length co22] rfl (by (try simp only [List.map_toArray, List.map_cons, List.map_nil]); first | done | rfl | (simp only [List.length_drop, List.length_take]; rfl)) ?_; (with_reducible refine (spec_l2Inverse.calls kj3 _ _ t295 t298 _ ?side1 ?side2 A18.out).mono ?_); (case side1 => repeat (first | exact (Kd.R_reads' HO297.out).2.2 | (with_reducible refine zv ?_ _) | (with_reducible refine zu ?_ _) | (with_reducible refine zw ?_))); (case side2 => exact (Kd.R_reads' HO297.out).2.1); rintro e w23 ⟨v299, rfl, ho0, hb⟩; refine ⟨_, rfl, ?_⟩; have n0_ := zk (Kd.R_elder' (by (with_reducible repeat (first | apply zs | apply zr | apply zt)); exact HO_4.out) (Kd.R_base ho0) hb); have n1_ := zk (Kd.R_elder' (by (with_reducible repeat (first | apply zs | apply zr | apply zt)); exact HO294.out) (Kd.R_base ho0) hb); have n2_ := zk (Kd.R_elder' (by (with_reducible repeat (first | apply zs | apply zr | apply zt)); exact HO297.out) (Kd.R_base ho0) hb); have n3_ := zk (Kd.R_lower (Kd.R_new' (Kd.R_new' (Kd.R_new' ho0 (Kd.R_lt (by (with_reducible repeat (first | apply zs | apply zr | apply zt)); exact HO_4.out))) (Kd.R_lt (by (with_reducible repeat (first | apply zs | apply zr | apply zt)); exact HO294.out))) (Kd.R_lt (by (with_reducible repeat (first | apply zs | apply zr | apply zt)); exact HO297.out))) (below_size (by repeat (first | exact HB.out | apply za | apply zd | apply ze)))); have n4_ := zk (below_step (by repeat (first | exact HB.out | apply za | apply zd | apply ze)) hb); clear HO_4; clear HO294; clear HO297; clear HB; have HO_4 := n0_; have HO294 := n1_; have HO297 := n2_; have HO300 := n3_; have HB := n4_; clear n0_ n1_ n2_ n3_ n4_; (try clear hb); (try clear hb2); (try clear hk); (try clear hi); (try clear ho0)))
     go_ret
     exact ⟨_, by first | rfl | (simp [errW_none, errW_some] <;> rfl) | (simp [*, errW_none, errW_some] <;> rfl), by (with_reducible repeat (first | apply zs | apply zr | apply zt)); exact Kd.R_mono HO300.out (fun _ hk => trivial), by repeat (first | exact HB.out | apply za | apply zd | apply ze)⟩
   · replace c15 := Bool.eq_false_iff.mpr c15
     subst c15
     have H1 : (some t279) = some r := by rw [if_neg (show ¬ (false = true) by decide)] at H; exact H
     clear H
     have H := H1
     clear H1
     obtain rfl := Option.some.inj H
     go_wp2
     go_ret
     exact ⟨_, by first | rfl | (simp [errW_none, errW_some] <;> rfl) | (simp [*, errW_none, errW_some] <;> rfl), by (with_reducible repeat (first | apply zs | apply zr | apply zt)); exact HO_4.out, by repeat (first | exact HB.out | apply za | apply zd | apply ze)⟩

/-! ### impl_sorted: function 183 -/
def impl_sorted.l0 : Nat → List Int → Int → Int → Option (List Int)
 | 0, _, _, _ => none
 | k + 1, x3, x6, x7 => if x7 < x6 then (if x3.length < 17592186044416 then (impl_sorted.l0 k (x3 ++ [wrap64 (x7 + 1)]) x6 (wrap64 (x7 + 1))) else (none)) else (some x3)
def impl_sorted.f (k : Nat) (a0 : Int) : Option (List Int) := impl_sorted.l0 k (([] : List Int)) a0 0
theorem impl_sorted.mono_l : ∀ k, (∀ y0 y1 y2, LeO (impl_sorted.l0 k y0 y1 y2) (impl_sorted.l0 (k + 1) y0 y1 y2))
 | 0 => fun _ _ _ r h => by simp [impl_sorted.l0] at h
 | k + 1 => by
  have ih0 := impl_sorted.mono_l k
  · intro y0 y1 y2
    unfold impl_sorted.l0
    repeat' first
    | (with_reducible exact ih0 _ _ _)
    | (with_reducible exact LeO.refl _)
    | (with_reducible exact LeO.none _)
    | (with_reducible refine LeO.ite ?_ ?_)
    | (with_reducible refine LeO.bind ?_ (fun _ => ?_))
    | exact ih0 _ _ _
    | exact LeO.none _
    | refine LeO.ite ?_ ?_
    | refine LeO.bind ?_ (fun _ => ?_)
theorem impl_sorted.mono : ∀ a0 k, LeO (impl_sorted.f k a0) (impl_sorted.f (k + 1) a0) := by
 intro a0 k
 have ih0 := impl_sorted.mono_l k
 unfold impl_sorted.f
 repeat' first
  | (with_reducible exact ih0 _ _ _)
  | (with_reducible exact LeO.refl _)
  | (with_reducible exact LeO.none _)
  | (with_reducible refine LeO.ite ?_ ?_)
  | (with_reducible refine LeO.bind ?_ (fun _ => ?_))
  | exact ih0 _ _ _
  | exact LeO.none _
  | refine LeO.ite ?_ ?_
  | refine LeO.bind ?_ (fun _ => ?_)
set_option maxHeartbeats 8000000 in
set_option maxRecDepth 100000 in
theorem impl_sorted.calls (k : Nat) (a0 : Int) (r : List Int) (w : World) (h : impl_sorted.f k a0 = some r) :
 Calls Try.prog 183 #[.int .i64 a0] w fun e w' => ∃ v0_ : Value, e = .returned (v0_) ∧ Kd.R (Kd.int .i64) 3 w' w.heap.size (fun _ => True) v0_ r ∧ Below w.heap.size w w' := by
 have HB := zk (Below.refl w.heap.size w)
 have H : (impl_sorted.l0 k (([] : List Int)) a0 0) = some r := h
 clear h
 obtain ⟨y301, hy301⟩ : ∃ y_ : List Int, y_ = (([] : List Int)) := ⟨_, rfl⟩
 replace H : (impl_sorted.l0 k y301 a0 0) = some r := by first | (rw [hy301]; with_reducible exact H) | (have H2_ := (Option.bind_some _ _).symm.trans H; rw [hy301]; with_reducible exact H2_) | (have H2_ := (Option.bind_some _ _).symm.trans H; with_reducible exact H2_) | with_reducible exact H | (rw [hy301]; exact H) | exact H
 have Ny301 := zk hy301
 clear hy301
 have H' := zk H
 clear H
 go_enter Try.func183, Try.ntmps183
 go_wp2_with (first | ((with_reducible refine gate_dst (N := 5) rfl ?_); refine Kd.R_lit (Kd.int .i64) _ 3 ?hg (N := 5) ?hd (xs := ([] : List Int)) (inner := []) (ok := fun _ => True) (okp := fun _ => True) ?hr ?hp (fun _ hk => hk) trivial (Below.refl _ _) (Nat.le_refl _) (by simp) ?_; (case hd => rfl); (case hg => rfl); (case hr => first | (go_simp; done) | (go_simp; rfl)); (case hp => exact (Reps.none _ _)); intro v302 w2 ho3 hb hg_ hnew_; clear hg_ hnew_; (first | rw [← Ny301.out] at ho3 | (simp only [Int.reduceToNat] at ho3; rw [← Ny301.out] at ho3)); have n0_ := zk (Kd.R_lower ho3 (below_size (by repeat (first | exact HB.out | apply za | apply zd | apply ze)))); have n1_ := zk (below_step (by repeat (first | exact HB.out | apply za | apply zd | apply ze)) hb); clear HB; have HO303 := n0_; have HB := n1_; clear n0_ n1_; clear hb ho3))
 go_loopg [3, 7] k (fun kq v3 v7 w' => ∃ (x3_1 : List Int) (x7_1 : Int), v7 = .int .i64 x7_1 ∧ Aside0 (impl_sorted.l0 kq x3_1 a0 x7_1 = some r) ∧ Aside0 (kq ≤ k) ∧ Aside0 (Kd.R (Kd.int .i64) 3 w' w.heap.size (fun _ => True) v3 x3_1) ∧ Aside0 (Below w.heap.size w w'))
 case atStart => exact ⟨(y301), (0), (by first | rfl | (simp; done) | (simp [*]; done)), H', ⟨Nat.le_refl _⟩, ⟨by (with_reducible repeat (first | apply zs | apply zr | apply zt)); exact HO303.out⟩, ⟨by repeat (first | exact HB.out | apply za | apply zd | apply ze)⟩⟩
 case round =>
  clear H'
  try clear c1
  try clear p2
  obtain ⟨x3_1, x7_1, rfl, HA, HK1, HO_3, HB⟩ := hrel
  cases gk with
  | zero => exact absurd HA.out (by simp [impl_sorted.l0])
  | succ k1 =>
   have H := HA.out
   clear HA
   simp only [impl_sorted.l0] at H
   by_cases c4 : x7_1 < a0
   · rw [if_pos c4] at H
     have c4b0 : decide (x7_1 < a0) = true := decide_eq_true c4
     clear c4
     by_cases c5 : x3_1.length < 17592186044416
     · rw [if_pos c5] at H
       have LMc5 := zk c5
       clear c5
       obtain ⟨y304, hy304⟩ : ∃ y_ : List Int, y_ = (x3_1 ++ [wrap64 (x7_1 + 1)]) := ⟨_, rfl⟩
       replace H : (impl_sorted.l0 k1 y304 a0 (wrap64 (x7_1 + 1))) = some r := by first | (rw [hy304]; with_reducible exact H) | (have H2_ := (Option.bind_some _ _).symm.trans H; rw [hy304]; with_reducible exact H2_) | (have H2_ := (Option.bind_some _ _).symm.trans H; with_reducible exact H2_) | with_reducible exact H | (rw [hy304]; exact H) | exact H
       have Ny304 := zk hy304
       clear hy304
       have H' := zk H
       clear H
       go_wp2_with (first | ((with_reducible refine gate_builtin (b := .append) (xs := #[.tmp 10, .tmp 13]) rfl ?_); at_builtin; refine Kd.R_append (Kd.int .i64) (w0 := w) w.heap.size rfl (.tmp 10) (.tmp 13) 22 3 (.int .i64 0) 8 rfl Try.underlying22 info3 rfl (by decide) (by omega) u3 x3_1 (wrap64 (x7_1 + 1)) [.int .i64 (wrap64 (x7_1 + 1))] (fun _ => True) (fun _ => False) rfl rfl ?aP (fun _ hk => hk.elim) ?aF ?aO ?aB ?aS ?aL ?_; (case aP => exact rfl); (case aB => exact (by repeat (first | exact HB.out | apply za | apply zd | apply ze))); (case aF => exact (fun _ _ => trivial)); (case aO => exact (by (with_reducible repeat (first | apply zs | apply zr | apply zt)); exact HO_3.out)); (case aS => exact (below_size (by repeat (first | exact HB.out | apply za | apply zd | apply ze)))); (case aL => have := LMc5.out; omega); intro v305 w6 ho hb hg hat; rw [← Ny304.out] at ho; have n0_ := zk (hb); have n1_ := zk (ho); clear HB; clear HO_3; have HB := n0_; have HO306 := n1_; clear n0_ n1_; clear ho hb hg hat))
       go_roundg k1
       case measure => have := HK1.out; omega
       case rel => exact ⟨(y304), (wrap64 (x7_1 + 1)), (by first | rfl | (simp; done) | (simp [*]; done)), H', ⟨by have := HK1.out; omega⟩, ⟨by (with_reducible repeat (first | apply zs | apply zr | apply zt)); exact HO306.out⟩, ⟨by repeat (first | exact HB.out | apply za | apply zd | apply ze)⟩⟩
     · rw [if_neg c5] at H
       exact absurd H (by simp)
   · rw [if_neg c4] at H
     have c4b0 : decide (x7_1 < a0) = false := decide_eq_false c4
     clear c4
     obtain rfl := Option.some.inj H
     go_wp2
     go_ret
     exact ⟨_, by first | rfl | (simp [errW_none, errW_some] <;> rfl) | (simp [*, errW_none, errW_some] <;> rfl), by (with_reducible repeat (first | apply zs | apply zr | apply zt)); exact HO_3.out, by repeat (first | exact HB.out | apply za | apply zd | apply ze)⟩

end Go.Proofs.Ytlkddcabjcejdaa.MFnOneStack
