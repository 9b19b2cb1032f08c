/- The functions that FnStackWords comes to, with a walk for each. Made by this session's own program (wip/tools/mk.py), in the form of the kit's print; walks named in NOTES.md were written by hand. -/
import Derived.Test.YtlkddcabjcejdaaMFnStackWordsx0
import Derived.Test.YtlkddcabjcejdaaMFnStackWordsx1
import Derived.Test.YtlkddcabjcejdaaMFnStackWordsx3
import Derived.Test.YtlkddcabjcejdaaMFnStackWordsx8
import Derived.Test.YtlkddcabjcejdaaMFnStackWordsx9
namespace Go.Proofs.Ytlkddcabjcejdaa.MFnStackWords
open Go.RowKit Go.Proofs.YtlkddcabjcejdaaW.PrintWords Go.Proofs.YtlkddcabjcejdaaW.PrintLast Go.Proofs.YtlkddcabjcejdaaW.PrintMore
attribute [local go_sem] max2_int min2_int max_two min_two max_three min_three max_four min_four   -- for this text's walks alone
set_option linter.unusedVariables false
set_option linter.unusedSimpArgs false

/-! ### spec_l1Cur_word: function 200 -/
def spec_l1Cur_word.l0 : Nat → Int → ByteArray → Int → List Int → Int → Int → Option (ByteArray × Int × Int)
 | 0, _, _, _, _, _, _ => none
 | k + 1, x1, x5, x6, x1000, x1001, x1002 => if (x5.size : Int) < (wrap64 (2 * x1)) then (if x6 = 0 then (if x5.size + 1 ≤ 9223372036854775807 then (spec_l1Cur_word.l0 k x1 (x5 ++ (⟨#[73]⟩ : ByteArray)) (wrap64 (x6 + 1)) x1000 x1001 x1002) else (none)) else (if x6 < (wrap64 ((wrap64 (2 * x1)) - (x5.size : Int))) then ((spec_l1Cur_one.f x1000 x1001 x1002 2).bind fun bt387 => (if bt387.1 = true then (if x5.size + 1 ≤ 9223372036854775807 then (spec_l1Cur_word.l0 k x1 (x5 ++ (⟨#[73]⟩ : ByteArray)) (wrap64 (x6 + 1)) x1000 bt387.2.1 bt387.2.2) else (none)) else (if x5.size + 1 ≤ 9223372036854775807 then (spec_l1Cur_word.l0 k x1 (x5 ++ (⟨#[79]⟩ : ByteArray)) (wrap64 (x6 - 1)) x1000 bt387.2.1 bt387.2.2) else (none)))) else (if x5.size + 1 ≤ 9223372036854775807 then (spec_l1Cur_word.l0 k x1 (x5 ++ (⟨#[79]⟩ : ByteArray)) (wrap64 (x6 - 1)) x1000 x1001 x1002) else (none)))) else ((spec_l1Cur_one.f x1000 x1001 x1002 24).bind fun bt390 => (if bt390.1 = true then ((spec_l1Cur_spoilt.f x1000 bt390.2.1 bt390.2.2 x5 (⟨#[73, 79, 88]⟩ : ByteArray)).bind fun bt393 => (some (bt393.1, bt393.2.1, bt393.2.2))) else (some (x5, bt390.2.1, bt390.2.2))))
def spec_l1Cur_word.f (k : Nat) (s0_0 : List Int) (s0_1 : Int) (s0_2 : Int) (a1 : Int) : Option (ByteArray × Int × Int) := spec_l1Cur_word.l0 k a1 (⟨#[]⟩ : ByteArray) 0 s0_0 s0_1 s0_2
set_option maxHeartbeats 8000000 in
set_option maxRecDepth 100000 in
theorem spec_l1Cur_word.calls (k : Nat) (g : Nat) (s0_0 : List Int) (s0_1 : Int) (s0_2 : Int) (a1 : Int) (r1 : ByteArray) (r2 : Int) (r3 : Int) (w0 w : World) (hI : IsS102 w0 w g s0_0 s0_1 s0_2) (hB : Below w0.heap.size w0 w) (h : spec_l1Cur_word.f k s0_0 s0_1 s0_2 a1 = some (r1, r2, r3)) :
 Calls Try.prog 200 #[.pointer (some ⟨g, 0, none⟩), .int .i64 a1] w fun e w' => e = .returned (.string r1) ∧ IsS102 w0 w' g s0_0 r2 r3 ∧ Below w0.heap.size w0 w' ∧ KeepBut w w' g none := by
 have HI0 := zk hI
 have HK := zk (KeepBut.refl w g none)
 have HL := zk hB.size
 clear hI
 have HW0 := zk hB.size
 have HB := zk hB
 clear hB
 have H : (spec_l1Cur_word.l0 k a1 (⟨#[]⟩ : ByteArray) 0 s0_0 s0_1 s0_2) = some (r1, r2, r3) := h
 clear h
 have H' := zk H
 clear H
 go_enter Try.func200, Try.ntmps200
 go_wp2
 go_loopg [5, 6] k (fun kq v5 v6 w' => ∃ (x5_1 : ByteArray) (x6_1 : Int) (x1001_1 : Int) (x1002_1 : Int), v5 = .string x5_1 ∧ v6 = .int .i64 x6_1 ∧ Aside0 (spec_l1Cur_word.l0 kq a1 x5_1 x6_1 s0_0 x1001_1 x1002_1 = some (r1, r2, r3)) ∧ Aside0 (kq ≤ k) ∧ Aside0 (IsS102 w0 w' g s0_0 x1001_1 x1002_1) ∧ Aside0 (KeepBut w w' g none) ∧ Aside0 (Below w0.heap.size w0 w'))
 case atStart => exact ⟨((⟨#[]⟩ : ByteArray)), (0), (s0_1), (s0_2), (by first | rfl | (simp; done) | (simp [*]; done)), (by first | rfl | (simp; done) | (simp [*]; done)), H', ⟨Nat.le_refl _⟩, ⟨by repeat (first | exact HI0.out | apply IsS102.alloc | apply IsS102.drewN | apply IsS102.drew | apply IsS102.set_1 | apply IsS102.set_2)⟩, ⟨by repeat (first | exact HK.out | apply KeepBut.set_ | apply keep_drewN | apply keep_drew | apply keep_alloc)⟩, ⟨by repeat (first | (with_reducible first | exact HB.out | apply za | apply zd | apply ze | refine below_set ?_ (IsS102.ge HI0.out)) | exact HB.out)⟩⟩
 case round =>
  clear H'
  try clear c2
  try clear p2
  obtain ⟨x5_1, x6_1, x1001_1, x1002_1, rfl, rfl, HA, HK1, HI0, HK, HB⟩ := hrel
  cases gk with
  | zero => exact absurd HA.out (by simp [spec_l1Cur_word.l0])
  | succ k1 =>
   have H := HA.out
   clear HA
   simp only [spec_l1Cur_word.l0] at H
   by_cases c3 : (x5_1.size : Int) < (wrap64 (2 * a1))
   · rw [if_pos c3] at H
     have c3b0 : decide ((x5_1.size : Int) < (wrap64 (2 * a1))) = true := decide_eq_true c3
     clear c3
     by_cases c4 : x6_1 = 0
     · rw [if_pos c4] at H
       have c4b0 : (x6_1 == 0) = true := beq_iff_eq.mpr c4
       have c4b1 : (x6_1 != 0) = false := bne_eq_false_iff_eq.mpr c4
       clear c4
       by_cases c5 : x5_1.size + 1 ≤ 9223372036854775807
       · rw [if_pos c5] at H
         have c5b0 := eq_true c5
         have c5b1 : decide (x5_1.size + 1 ≤ 9223372036854775807) = true := decide_eq_true c5
         try have c5b2 : (9223372036854775807 < x5_1.size + 1) = False := eq_false (Nat.not_lt.2 c5)
         have H' := zk H
         clear H
         go_wp2
         go_roundg k1
         case measure => have := HK1.out; omega
         case rel => exact ⟨(x5_1 ++ (⟨#[73]⟩ : ByteArray)), (wrap64 (x6_1 + 1)), (x1001_1), (x1002_1), (by first | rfl | (simp; done) | (simp [*]; done)), (by first | rfl | (simp; done) | (simp [*]; done)), H', ⟨by have := HK1.out; omega⟩, ⟨by repeat (first | exact HI0.out | apply IsS102.alloc | apply IsS102.drewN | apply IsS102.drew | apply IsS102.set_1 | apply IsS102.set_2)⟩, ⟨by repeat (first | exact HK.out | apply KeepBut.set_ | apply keep_drewN | apply keep_drew | apply keep_alloc)⟩, ⟨by repeat (first | (with_reducible first | exact HB.out | apply za | apply zd | apply ze | refine below_set ?_ (IsS102.ge HI0.out)) | exact HB.out)⟩⟩
       · rw [if_neg c5] at H
         exact absurd H (by simp)
     · rw [if_neg c4] at H
       have c4b0 : (x6_1 == 0) = false := beq_eq_false_iff_ne.mpr c4
       have c4b1 : (x6_1 != 0) = true := bne_iff_ne.mpr c4
       by_cases c6 : x6_1 < (wrap64 ((wrap64 (2 * a1)) - (x5_1.size : Int)))
       · rw [if_pos c6] at H
         have c6b0 : decide (x6_1 < (wrap64 ((wrap64 (2 * a1)) - (x5_1.size : Int)))) = true := decide_eq_true c6
         clear c6
         replace H := Option.bind_eq_some_iff.mp H
         obtain ⟨⟨t387, t388, t389⟩, A70, H⟩ := H
         try dsimp only at H
         have A7 := zk A70
         clear A70
         by_cases c8 : t387 = true
         · subst c8
           have H1 : (if x5_1.size + 1 ≤ 9223372036854775807 then (spec_l1Cur_word.l0 k1 a1 (x5_1 ++ (⟨#[73]⟩ : ByteArray)) (wrap64 (x6_1 + 1)) s0_0 t388 t389) else (none)) = some (r1, r2, r3) := by rw [if_pos rfl] at H; exact H
           clear H
           have H := H1
           clear H1
           by_cases c9 : x5_1.size + 1 ≤ 9223372036854775807
           · rw [if_pos c9] at H
             have c9b0 := eq_true c9
             have c9b1 : decide (x5_1.size + 1 ≤ 9223372036854775807) = true := decide_eq_true c9
             try have c9b2 : (9223372036854775807 < x5_1.size + 1) = False := eq_false (Nat.not_lt.2 c9)
             have H' := zk H
             clear H
             go_wp2_with (first | (go_at_call 164; (with_reducible refine (spec_l1Cur_one.calls g s0_0 x1001_1 x1002_1 2 true t388 t389 w0 _ ?side1 ?side2 A7.out).mono ?_); (case side1 => repeat (first | exact HI0.out | apply IsS102.alloc | apply IsS102.drewN | apply IsS102.drew | apply IsS102.set_1 | apply IsS102.set_2)); (case side2 => repeat (first | (with_reducible first | exact HB.out | apply za | apply zd | apply ze | refine below_set ?_ (IsS102.ge HI0.out)) | exact HB.out)); rintro e w10 ⟨rfl, hi, hb, hk⟩; have n0_ := zk (KeepBut.trans (by repeat (first | exact HK.out | apply KeepBut.set_ | apply keep_drewN | apply keep_drew | apply keep_alloc)) hk (.inl rfl)); have n1_ := zk (hb); have n2_ := zk (hi); clear HK; clear HB; clear HI0; have HK := n0_; have HB := n1_; have HI0 := n2_; clear n0_ n1_ n2_; (try clear hb); (try clear hb2); (try clear hk); (try clear hi)))
             go_roundg k1
             case measure => have := HK1.out; omega
             case rel => exact ⟨(x5_1 ++ (⟨#[73]⟩ : ByteArray)), (wrap64 (x6_1 + 1)), (t388), (t389), (by first | rfl | (simp; done) | (simp [*]; done)), (by first | rfl | (simp; done) | (simp [*]; done)), H', ⟨by have := HK1.out; omega⟩, ⟨by repeat (first | exact HI0.out | apply IsS102.alloc | apply IsS102.drewN | apply IsS102.drew | apply IsS102.set_1 | apply IsS102.set_2)⟩, ⟨by repeat (first | exact HK.out | apply KeepBut.set_ | apply keep_drewN | apply keep_drew | apply keep_alloc)⟩, ⟨by repeat (first | (with_reducible first | exact HB.out | apply za | apply zd | apply ze | refine below_set ?_ (IsS102.ge HI0.out)) | exact HB.out)⟩⟩
           · rw [if_neg c9] at H
             exact absurd H (by simp)
         · replace c8 := Bool.eq_false_iff.mpr c8
           subst c8
           have H1 : (if x5_1.size + 1 ≤ 9223372036854775807 then (spec_l1Cur_word.l0 k1 a1 (x5_1 ++ (⟨#[79]⟩ : ByteArray)) (wrap64 (x6_1 - 1)) s0_0 t388 t389) else (none)) = some (r1, r2, r3) := by rw [if_neg (show ¬ (false = true) by decide)] at H; exact H
           clear H
           have H := H1
           clear H1
           by_cases c11 : x5_1.size + 1 ≤ 9223372036854775807
           · rw [if_pos c11] at H
             have c11b0 := eq_true c11
             have c11b1 : decide (x5_1.size + 1 ≤ 9223372036854775807) = true := decide_eq_true c11
             try have c11b2 : (9223372036854775807 < x5_1.size + 1) = False := eq_false (Nat.not_lt.2 c11)
             have H' := zk H
             clear H
             go_wp2_with (first | (go_at_call 164; (with_reducible refine (spec_l1Cur_one.calls g s0_0 x1001_1 x1002_1 2 false t388 t389 w0 _ ?side1 ?side2 A7.out).mono ?_); (case side1 => repeat (first | exact HI0.out | apply IsS102.alloc | apply IsS102.drewN | apply IsS102.drew | apply IsS102.set_1 | apply IsS102.set_2)); (case side2 => repeat (first | (with_reducible first | exact HB.out | apply za | apply zd | apply ze | refine below_set ?_ (IsS102.ge HI0.out)) | exact HB.out)); rintro e w12 ⟨rfl, hi, hb, hk⟩; have n0_ := zk (KeepBut.trans (by repeat (first | exact HK.out | apply KeepBut.set_ | apply keep_drewN | apply keep_drew | apply keep_alloc)) hk (.inl rfl)); have n1_ := zk (hb); have n2_ := zk (hi); clear HK; clear HB; clear HI0; have HK := n0_; have HB := n1_; have HI0 := n2_; clear n0_ n1_ n2_; (try clear hb); (try clear hb2); (try clear hk); (try clear hi)))
             go_roundg k1
             case measure => have := HK1.out; omega
             case rel => exact ⟨(x5_1 ++ (⟨#[79]⟩ : ByteArray)), (wrap64 (x6_1 - 1)), (t388), (t389), (by first | rfl | (simp; done) | (simp [*]; done)), (by first | rfl | (simp; done) | (simp [*]; done)), H', ⟨by have := HK1.out; omega⟩, ⟨by repeat (first | exact HI0.out | apply IsS102.alloc | apply IsS102.drewN | apply IsS102.drew | apply IsS102.set_1 | apply IsS102.set_2)⟩, ⟨by repeat (first | exact HK.out | apply KeepBut.set_ | apply keep_drewN | apply keep_drew | apply keep_alloc)⟩, ⟨by repeat (first | (with_reducible first | exact HB.out | apply za | apply zd | apply ze | refine below_set ?_ (IsS102.ge HI0.out)) | exact HB.out)⟩⟩
           · rw [if_neg c11] at H
             exact absurd H (by simp)
       · rw [if_neg c6] at H
         have c6b0 : decide (x6_1 < (wrap64 ((wrap64 (2 * a1)) - (x5_1.size : Int)))) = false := decide_eq_false c6
         clear c6
         by_cases c13 : x5_1.size + 1 ≤ 9223372036854775807
         · rw [if_pos c13] at H
           have c13b0 := eq_true c13
           have c13b1 : decide (x5_1.size + 1 ≤ 9223372036854775807) = true := decide_eq_true c13
           try have c13b2 : (9223372036854775807 < x5_1.size + 1) = False := eq_false (Nat.not_lt.2 c13)
           have H' := zk H
           clear H
           go_wp2
           go_roundg k1
           case measure => have := HK1.out; omega
           case rel => exact ⟨(x5_1 ++ (⟨#[79]⟩ : ByteArray)), (wrap64 (x6_1 - 1)), (x1001_1), (x1002_1), (by first | rfl | (simp; done) | (simp [*]; done)), (by first | rfl | (simp; done) | (simp [*]; done)), H', ⟨by have := HK1.out; omega⟩, ⟨by repeat (first | exact HI0.out | apply IsS102.alloc | apply IsS102.drewN | apply IsS102.drew | apply IsS102.set_1 | apply IsS102.set_2)⟩, ⟨by repeat (first | exact HK.out | apply KeepBut.set_ | apply keep_drewN | apply keep_drew | apply keep_alloc)⟩, ⟨by repeat (first | (with_reducible first | exact HB.out | apply za | apply zd | apply ze | refine below_set ?_ (IsS102.ge HI0.out)) | exact HB.out)⟩⟩
         · rw [if_neg c13] at H
           exact absurd H (by simp)
   · rw [if_neg c3] at H
     have c3b0 : decide ((x5_1.size : Int) < (wrap64 (2 * a1))) = false := decide_eq_false c3
     clear c3
     replace H := Option.bind_eq_some_iff.mp H
     obtain ⟨⟨t390, t391, t392⟩, A140, H⟩ := H
     try dsimp only at H
     have A14 := zk A140
     clear A140
     by_cases c15 : t390 = true
     · subst c15
       have H1 : ((spec_l1Cur_spoilt.f s0_0 t391 t392 x5_1 (⟨#[73, 79, 88]⟩ : ByteArray)).bind fun bt393 => (some (bt393.1, bt393.2.1, bt393.2.2))) = some (r1, r2, r3) := by rw [if_pos rfl] at H; exact H
       clear H
       have H := H1
       clear H1
       replace H := Option.bind_eq_some_iff.mp H
       obtain ⟨⟨t393, t394, t395⟩, A160, H⟩ := H
       try dsimp only at H
       have A16 := zk A160
       clear A160
       simp only [Option.some.injEq, Prod.mk.injEq] at H
       obtain ⟨rfl, rfl, rfl⟩ := H
       go_wp2_with (first | ((with_reducible refine gate_callee (f := 164) rfl ?_); refine goesL_ (some 36) rfl rfl Try.func164 (by kernel_rfl) rfl #[.pointer (some ⟨g, 0, none⟩), .int .i64 24] rfl (by (try simp only [List.map_toArray, List.map_cons, List.map_nil]); first | done | rfl | (simp only [List.length_drop, List.length_take]; rfl)) ?_; (with_reducible refine (spec_l1Cur_one.calls g s0_0 x1001_1 x1002_1 24 true t391 t392 w0 _ ?side1 ?side2 A14.out).mono ?_); (case side1 => repeat (first | exact HI0.out | apply IsS102.alloc | apply IsS102.drewN | apply IsS102.drew | apply IsS102.set_1 | apply IsS102.set_2)); (case side2 => repeat (first | (with_reducible first | exact HB.out | apply za | apply zd | apply ze | refine below_set ?_ (IsS102.ge HI0.out)) | exact HB.out)); rintro e w17 ⟨rfl, hi, hb, hk⟩; refine ⟨_, rfl, ?_⟩; have n0_ := zk (KeepBut.trans (by repeat (first | exact HK.out | apply KeepBut.set_ | apply keep_drewN | apply keep_drew | apply keep_alloc)) hk (.inl rfl)); have n1_ := zk (hb); have n2_ := zk (hi); clear HK; clear HB; clear HI0; have HK := n0_; have HB := n1_; have HI0 := n2_; clear n0_ n1_ n2_; (try clear hb); (try clear hb2); (try clear hk); (try clear hi)) | ((with_reducible refine gate_callee (f := 198) rfl ?_); refine goesL_ (some 39) rfl rfl Try.func198 (by kernel_rfl) rfl #[.pointer (some ⟨g, 0, none⟩), .string x5_1, .string (⟨#[73, 79, 88]⟩ : ByteArray)] rfl (by (try simp only [List.map_toArray, List.map_cons, List.map_nil]); first | done | rfl | (simp only [List.length_drop, List.length_take]; rfl)) ?_; (with_reducible refine (spec_l1Cur_spoilt.calls g s0_0 t391 t392 x5_1 (⟨#[73, 79, 88]⟩ : ByteArray) t393 t394 t395 w0 _ ?side1 ?side2 A16.out).mono ?_); (case side1 => repeat (first | exact HI0.out | apply IsS102.alloc | apply IsS102.drewN | apply IsS102.drew | apply IsS102.set_1 | apply IsS102.set_2)); (case side2 => repeat (first | (with_reducible first | exact HB.out | apply za | apply zd | apply ze | refine below_set ?_ (IsS102.ge HI0.out)) | exact HB.out)); rintro e w18 ⟨rfl, hi, hb, hk⟩; refine ⟨_, rfl, ?_⟩; have n0_ := zk (KeepBut.trans (by repeat (first | exact HK.out | apply KeepBut.set_ | apply keep_drewN | apply keep_drew | apply keep_alloc)) hk (.inl rfl)); have n1_ := zk (hb); have n2_ := zk (hi); clear HK; clear HB; clear HI0; have HK := n0_; have HB := n1_; have HI0 := n2_; clear n0_ n1_ n2_; (try clear hb); (try clear hb2); (try clear hk); (try clear hi)))
       go_ret
       exact ⟨by first | rfl | (simp [errW_none, errW_some] <;> rfl) | (simp [*, errW_none, errW_some] <;> rfl), by repeat (first | exact HI0.out | apply IsS102.alloc | apply IsS102.drewN | apply IsS102.drew | apply IsS102.set_1 | apply IsS102.set_2), by repeat (first | (with_reducible first | exact HB.out | apply za | apply zd | apply ze | refine below_set ?_ (IsS102.ge HI0.out)) | exact HB.out), by repeat (first | exact HK.out | apply KeepBut.set_ | apply keep_drewN | apply keep_drew | apply keep_alloc)⟩
     · replace c15 := Bool.eq_false_iff.mpr c15
       subst c15
       have H1 : (some (x5_1, t391, t392)) = some (r1, r2, r3) := by rw [if_neg (show ¬ (false = true) by decide)] at H; exact H
       clear H
       have H := H1
       clear H1
       simp only [Option.some.injEq, Prod.mk.injEq] at H
       obtain ⟨rfl, rfl, rfl⟩ := H
       go_wp2_with (first | ((with_reducible refine gate_callee (f := 164) rfl ?_); refine goesL_ (some 36) rfl rfl Try.func164 (by kernel_rfl) rfl #[.pointer (some ⟨g, 0, none⟩), .int .i64 24] rfl (by (try simp only [List.map_toArray, List.map_cons, List.map_nil]); first | done | rfl | (simp only [List.length_drop, List.length_take]; rfl)) ?_; (with_reducible refine (spec_l1Cur_one.calls g s0_0 x1001_1 x1002_1 24 false t391 t392 w0 _ ?side1 ?side2 A14.out).mono ?_); (case side1 => repeat (first | exact HI0.out | apply IsS102.alloc | apply IsS102.drewN | apply IsS102.drew | apply IsS102.set_1 | apply IsS102.set_2)); (case side2 => repeat (first | (with_reducible first | exact HB.out | apply za | apply zd | apply ze | refine below_set ?_ (IsS102.ge HI0.out)) | exact HB.out)); rintro e w19 ⟨rfl, hi, hb, hk⟩; refine ⟨_, rfl, ?_⟩; have n0_ := zk (KeepBut.trans (by repeat (first | exact HK.out | apply KeepBut.set_ | apply keep_drewN | apply keep_drew | apply keep_alloc)) hk (.inl rfl)); have n1_ := zk (hb); have n2_ := zk (hi); clear HK; clear HB; clear HI0; have HK := n0_; have HB := n1_; have HI0 := n2_; clear n0_ n1_ n2_; (try clear hb); (try clear hb2); (try clear hk); (try clear hi)))
       go_ret
       exact ⟨by first | rfl | (simp [errW_none, errW_some] <;> rfl) | (simp [*, errW_none, errW_some] <;> rfl), by repeat (first | exact HI0.out | apply IsS102.alloc | apply IsS102.drewN | apply IsS102.drew | apply IsS102.set_1 | apply IsS102.set_2), by repeat (first | (with_reducible first | exact HB.out | apply za | apply zd | apply ze | refine below_set ?_ (IsS102.ge HI0.out)) | exact HB.out), by repeat (first | exact HK.out | apply KeepBut.set_ | apply keep_drewN | apply keep_drew | apply keep_alloc)⟩

/-! ### spec_DrawRunWord: function 92 -/
def spec_DrawRunWord.f (k : Nat) (l0 : List Int) : Option (List Int × ByteArray) := (spec_l1Cur_order.f k l0 0 0).bind fun bt397 => ((spec_l1Cur_one.f l0 bt397.2.1 bt397.2.2 24).bind fun bt402 => (if bt402.1 = true then ((spec_l1Cur_word.f k l0 bt402.2.1 bt402.2.2 (wrap64 ((bt397.1.length : Int) + 1))).bind fun bt405 => (some (bt397.1, bt405.1))) else ((spec_l1Cur_word.f k l0 bt402.2.1 bt402.2.2 (bt397.1.length : Int)).bind fun bt408 => (some (bt397.1, bt408.1)))))
set_option maxHeartbeats 8000000 in
set_option maxRecDepth 100000 in
theorem spec_DrawRunWord.calls (k : Nat) (A0 : Option Addr) (c0 : Nat) (l0 : List Int) (r1 : List Int) (r2 : ByteArray) (w : World) (hr0 : Kd.C (Kd.int .u8) w A0 l0.length l0) (hc0 : l0.length ≤ c0) (h : spec_DrawRunWord.f k l0 = some (r1, r2)) :
 Calls Try.prog 92 #[.slice A0 l0.length c0] w fun e w' => ∃ v0_ : Value, e = .returned (.tuple #[v0_, .string r2]) ∧ Kd.R (Kd.int .i64) 3 w' w.heap.size (fun _ => True) v0_ r1 ∧ Below w.heap.size w w' := by
 have hu102 := Try.underlying102
 have HR0 := zk hr0
 have HC0 := zk hc0
 clear hr0 hc0
 have HB := zk (Below.refl w.heap.size w)
 have H : ((spec_l1Cur_order.f k l0 0 0).bind fun bt397 => ((spec_l1Cur_one.f l0 bt397.2.1 bt397.2.2 24).bind fun bt402 => (if bt402.1 = true then ((spec_l1Cur_word.f k l0 bt402.2.1 bt402.2.2 (wrap64 ((bt397.1.length : Int) + 1))).bind fun bt405 => (some (bt397.1, bt405.1))) else ((spec_l1Cur_word.f k l0 bt402.2.1 bt402.2.2 (bt397.1.length : Int)).bind fun bt408 => (some (bt397.1, bt408.1)))))) = some (r1, r2) := h
 clear h
 replace H := Option.bind_eq_some_iff.mp H
 obtain ⟨⟨t397, t400, t401⟩, A20, H⟩ := H
 try dsimp only at H
 have A2 := zk A20
 clear A20
 replace H := Option.bind_eq_some_iff.mp H
 obtain ⟨⟨t402, t403, t404⟩, A30, H⟩ := H
 try dsimp only at H
 have A3 := zk A30
 clear A30
 by_cases c4 : t402 = true
 · subst c4
   have H1 : ((spec_l1Cur_word.f k l0 t403 t404 (wrap64 ((t397.length : Int) + 1))).bind fun bt405 => (some (t397, bt405.1))) = some (r1, r2) := by rw [if_pos rfl] at H; exact H
   clear H
   have H := H1
   clear H1
   replace H := Option.bind_eq_some_iff.mp H
   obtain ⟨⟨t405, t406, t407⟩, A50, H⟩ := H
   try dsimp only at H
   have A5 := zk A50
   clear A50
   simp only [Option.some.injEq, Prod.mk.injEq] at H
   obtain ⟨rfl, rfl⟩ := H
   go_enter Try.func92, Try.ntmps92
   go_wp2_with (first | ((with_reducible refine gate_dst (N := 9) rfl ?_); refine box_event ?hg (N := 9) ?hd (cs := #[.slice A0 l0.length c0, .int .i64 0, .int .u64 0]) (t := 102) ?hr ?_; (case hd => rfl); (case hg => rfl); (case hr => first | (go_simp; done) | (go_simp; rfl)); intro gb396 hg w6 hbox hb; have n0_ := zk (below_step (by repeat (first | exact HB.out | apply za | apply zd | apply ze)) hb); have n1_ := zk ((⟨_, _, hbox, (by rw [hg]; exact (below_size (by repeat (first | exact HB.out | apply za | apply zd | apply ze))) : w.heap.size ≤ gb396), HR0.out⟩ : IsS102 w _ gb396 l0 0 0)); have n2_ := zk ((by rw [hg]; exact (below_size (by repeat (first | exact HB.out | apply za | apply zd | apply ze))) : w.heap.size ≤ gb396)); have n3_ := zk ((by rw [hg]; exact (below_size (by repeat (first | exact HB.out | apply za | apply zd | apply ze))) : w.heap.size ≤ gb396)); clear HB; have HB := n0_; have HI396 := n1_; have GW396 := n2_; have GE396 := n3_; clear n0_ n1_ n2_ n3_; clear hb hbox hg) | ((with_reducible refine gate_callee (f := 166) rfl ?_); refine goesL_ (some 11) rfl rfl Try.func166 (by kernel_rfl) rfl #[.pointer (some ⟨gb396, 0, none⟩)] rfl (by (try simp only [List.map_toArray, List.map_cons, List.map_nil]); first | done | rfl | (simp only [List.length_drop, List.length_take]; rfl)) ?_; (with_reducible refine (spec_l1Cur_order.calls k gb396 l0 0 0 t397 t400 t401 w _ ?side1 ?side2 A2.out).mono ?_); (case side1 => repeat (first | exact HI396.out | apply IsS102.alloc | apply IsS102.drewN | apply IsS102.drew | apply IsS102.set_1 | apply IsS102.set_2)); (case side2 => repeat (first | (with_reducible first | exact HB.out | apply za | apply zd | apply ze | refine below_set ?_ (IsS102.ge HI396.out)) | exact HB.out)); rintro e w7 ⟨v398, rfl, ho0, hi, hb, hk⟩; refine ⟨_, rfl, ?_⟩; have n0_ := zk (Kd.R_lower ho0 (below_size (by repeat (first | (with_reducible first | exact HB.out | apply za | apply zd | apply ze | refine below_set ?_ (IsS102.ge HI396.out)) | exact HB.out)))); have n1_ := zk (hb); have n2_ := zk (hi); clear HB; clear HI396; have HO399 := n0_; have HB := n1_; have HI396 := n2_; clear n0_ n1_ n2_; (try clear hb); (try clear hb2); (try clear hk); (try clear hi); (try clear ho0); obtain ⟨Ao8, co8, eo8⟩ := Kd.R_slice HO399.out; subst eo8) | ((with_reducible refine gate_callee (f := 164) rfl ?_); refine goesL_ (some 15) rfl rfl Try.func164 (by kernel_rfl) rfl #[.pointer (some ⟨gb396, 0, none⟩), .int .i64 24] rfl (by (try simp only [List.map_toArray, List.map_cons, List.map_nil]); first | done | rfl | (simp only [List.length_drop, List.length_take]; rfl)) ?_; (with_reducible refine (spec_l1Cur_one.calls gb396 l0 t400 t401 24 true t403 t404 w _ ?side1 ?side2 A3.out).mono ?_); (case side1 => repeat (first | exact HI396.out | apply IsS102.alloc | apply IsS102.drewN | apply IsS102.drew | apply IsS102.set_1 | apply IsS102.set_2)); (case side2 => repeat (first | (with_reducible first | exact HB.out | apply za | apply zd | apply ze | refine below_set ?_ (IsS102.ge HI396.out)) | exact HB.out)); rintro e w9 ⟨rfl, hi, hb, hk⟩; refine ⟨_, rfl, ?_⟩; have n0_ := zk (Kd.R_mono (Kd.R_keep (IsS102.apart (show IsS102 w _ gb396 l0 t400 t401 from by repeat (first | exact HI396.out | apply IsS102.alloc | apply IsS102.drewN | apply IsS102.drew | apply IsS102.set_1 | apply IsS102.set_2)) (by (with_reducible repeat (first | apply zs | apply zr | apply zt)); exact HO399.out) (by decide)) hk (fun _ h => h.2)) (fun _ h => h.1)); have n1_ := zk (hb); have n2_ := zk (hi); clear HO399; clear HB; clear HI396; have HO399 := n0_; have HB := n1_; have HI396 := n2_; clear n0_ n1_ n2_; (try clear hb); (try clear hb2); (try clear hk); (try clear hi)) | ((with_reducible refine gate_callee (f := 200) rfl ?_); refine goesL_ (some 21) rfl rfl Try.func200 (by kernel_rfl) rfl #[.pointer (some ⟨gb396, 0, none⟩), .int .i64 (wrap64 ((t397.length : Int) + 1))] rfl (by (try simp only [List.map_toArray, List.map_cons, List.map_nil]); first | done | rfl | (simp only [List.length_drop, List.length_take]; rfl)) ?_; (with_reducible refine (spec_l1Cur_word.calls k gb396 l0 t403 t404 (wrap64 ((t397.length : Int) + 1)) t405 t406 t407 w _ ?side1 ?side2 A5.out).mono ?_); (case side1 => repeat (first | exact HI396.out | apply IsS102.alloc | apply IsS102.drewN | apply IsS102.drew | apply IsS102.set_1 | apply IsS102.set_2)); (case side2 => repeat (first | (with_reducible first | exact HB.out | apply za | apply zd | apply ze | refine below_set ?_ (IsS102.ge HI396.out)) | exact HB.out)); rintro e w10 ⟨rfl, hi, hb, hk⟩; refine ⟨_, rfl, ?_⟩; have n0_ := zk (Kd.R_mono (Kd.R_keep (IsS102.apart (show IsS102 w _ gb396 l0 t403 t404 from by repeat (first | exact HI396.out | apply IsS102.alloc | apply IsS102.drewN | apply IsS102.drew | apply IsS102.set_1 | apply IsS102.set_2)) (by (with_reducible repeat (first | apply zs | apply zr | apply zt)); exact HO399.out) (by decide)) hk (fun _ h => h.2)) (fun _ h => h.1)); have n1_ := zk (hb); have n2_ := zk (hi); clear HO399; clear HB; clear HI396; have HO399 := n0_; have HB := n1_; have HI396 := n2_; clear n0_ n1_ n2_; (try clear hb); (try clear hb2); (try clear hk); (try clear hi)))
   go_ret2
   exact ⟨_, by first | rfl | (simp [errW_none, errW_some] <;> rfl) | (simp [*, errW_none, errW_some] <;> rfl), by (with_reducible repeat (first | apply zs | apply zr | apply zt)); exact HO399.out, by repeat (first | (with_reducible first | exact HB.out | apply za | apply zd | apply ze | refine below_set ?_ (IsS102.ge HI396.out)) | exact HB.out)⟩
 · replace c4 := Bool.eq_false_iff.mpr c4
   subst c4
   have H1 : ((spec_l1Cur_word.f k l0 t403 t404 (t397.length : Int)).bind fun bt408 => (some (t397, bt408.1))) = some (r1, r2) := by rw [if_neg (show ¬ (false = true) by decide)] at H; exact H
   clear H
   have H := H1
   clear H1
   replace H := Option.bind_eq_some_iff.mp H
   obtain ⟨⟨t408, t409, t410⟩, A110, H⟩ := H
   try dsimp only at H
   have A11 := zk A110
   clear A110
   simp only [Option.some.injEq, Prod.mk.injEq] at H
   obtain ⟨rfl, rfl⟩ := H
   go_enter Try.func92, Try.ntmps92
   go_wp2_with (first | ((with_reducible refine gate_dst (N := 9) rfl ?_); refine box_event ?hg (N := 9) ?hd (cs := #[.slice A0 l0.length c0, .int .i64 0, .int .u64 0]) (t := 102) ?hr ?_; (case hd => rfl); (case hg => rfl); (case hr => first | (go_simp; done) | (go_simp; rfl)); intro gb396 hg w12 hbox hb; have n0_ := zk (below_step (by repeat (first | exact HB.out | apply za | apply zd | apply ze)) hb); have n1_ := zk ((⟨_, _, hbox, (by rw [hg]; exact (below_size (by repeat (first | exact HB.out | apply za | apply zd | apply ze))) : w.heap.size ≤ gb396), HR0.out⟩ : IsS102 w _ gb396 l0 0 0)); have n2_ := zk ((by rw [hg]; exact (below_size (by repeat (first | exact HB.out | apply za | apply zd | apply ze))) : w.heap.size ≤ gb396)); have n3_ := zk ((by rw [hg]; exact (below_size (by repeat (first | exact HB.out | apply za | apply zd | apply ze))) : w.heap.size ≤ gb396)); clear HB; have HB := n0_; have HI396 := n1_; have GW396 := n2_; have GE396 := n3_; clear n0_ n1_ n2_ n3_; clear hb hbox hg) | ((with_reducible refine gate_callee (f := 166) rfl ?_); refine goesL_ (some 11) rfl rfl Try.func166 (by kernel_rfl) rfl #[.pointer (some ⟨gb396, 0, none⟩)] rfl (by (try simp only [List.map_toArray, List.map_cons, List.map_nil]); first | done | rfl | (simp only [List.length_drop, List.length_take]; rfl)) ?_; (with_reducible refine (spec_l1Cur_order.calls k gb396 l0 0 0 t397 t400 t401 w _ ?side1 ?side2 A2.out).mono ?_); (case side1 => repeat (first | exact HI396.out | apply IsS102.alloc | apply IsS102.drewN | apply IsS102.drew | apply IsS102.set_1 | apply IsS102.set_2)); (case side2 => repeat (first | (with_reducible first | exact HB.out | apply za | apply zd | apply ze | refine below_set ?_ (IsS102.ge HI396.out)) | exact HB.out)); rintro e w13 ⟨v398, rfl, ho0, hi, hb, hk⟩; refine ⟨_, rfl, ?_⟩; have n0_ := zk (Kd.R_lower ho0 (below_size (by repeat (first | (with_reducible first | exact HB.out | apply za | apply zd | apply ze | refine below_set ?_ (IsS102.ge HI396.out)) | exact HB.out)))); have n1_ := zk (hb); have n2_ := zk (hi); clear HB; clear HI396; have HO399 := n0_; have HB := n1_; have HI396 := n2_; clear n0_ n1_ n2_; (try clear hb); (try clear hb2); (try clear hk); (try clear hi); (try clear ho0); obtain ⟨Ao14, co14, eo14⟩ := Kd.R_slice HO399.out; subst eo14) | ((with_reducible refine gate_callee (f := 164) rfl ?_); refine goesL_ (some 15) rfl rfl Try.func164 (by kernel_rfl) rfl #[.pointer (some ⟨gb396, 0, none⟩), .int .i64 24] rfl (by (try simp only [List.map_toArray, List.map_cons, List.map_nil]); first | done | rfl | (simp only [List.length_drop, List.length_take]; rfl)) ?_; (with_reducible refine (spec_l1Cur_one.calls gb396 l0 t400 t401 24 false t403 t404 w _ ?side1 ?side2 A3.out).mono ?_); (case side1 => repeat (first | exact HI396.out | apply IsS102.alloc | apply IsS102.drewN | apply IsS102.drew | apply IsS102.set_1 | apply IsS102.set_2)); (case side2 => repeat (first | (with_reducible first | exact HB.out | apply za | apply zd | apply ze | refine below_set ?_ (IsS102.ge HI396.out)) | exact HB.out)); rintro e w15 ⟨rfl, hi, hb, hk⟩; refine ⟨_, rfl, ?_⟩; have n0_ := zk (Kd.R_mono (Kd.R_keep (IsS102.apart (show IsS102 w _ gb396 l0 t400 t401 from by repeat (first | exact HI396.out | apply IsS102.alloc | apply IsS102.drewN | apply IsS102.drew | apply IsS102.set_1 | apply IsS102.set_2)) (by (with_reducible repeat (first | apply zs | apply zr | apply zt)); exact HO399.out) (by decide)) hk (fun _ h => h.2)) (fun _ h => h.1)); have n1_ := zk (hb); have n2_ := zk (hi); clear HO399; clear HB; clear HI396; have HO399 := n0_; have HB := n1_; have HI396 := n2_; clear n0_ n1_ n2_; (try clear hb); (try clear hb2); (try clear hk); (try clear hi)) | ((with_reducible refine gate_callee (f := 200) rfl ?_); refine goesL_ (some 21) rfl rfl Try.func200 (by kernel_rfl) rfl #[.pointer (some ⟨gb396, 0, none⟩), .int .i64 (t397.length : Int)] rfl (by (try simp only [List.map_toArray, List.map_cons, List.map_nil]); first | done | rfl | (simp only [List.length_drop, List.length_take]; rfl)) ?_; (with_reducible refine (spec_l1Cur_word.calls k gb396 l0 t403 t404 (t397.length : Int) t408 t409 t410 w _ ?side1 ?side2 A11.out).mono ?_); (case side1 => repeat (first | exact HI396.out | apply IsS102.alloc | apply IsS102.drewN | apply IsS102.drew | apply IsS102.set_1 | apply IsS102.set_2)); (case side2 => repeat (first | (with_reducible first | exact HB.out | apply za | apply zd | apply ze | refine below_set ?_ (IsS102.ge HI396.out)) | exact HB.out)); rintro e w16 ⟨rfl, hi, hb, hk⟩; refine ⟨_, rfl, ?_⟩; have n0_ := zk (Kd.R_mono (Kd.R_keep (IsS102.apart (show IsS102 w _ gb396 l0 t403 t404 from by repeat (first | exact HI396.out | apply IsS102.alloc | apply IsS102.drewN | apply IsS102.drew | apply IsS102.set_1 | apply IsS102.set_2)) (by (with_reducible repeat (first | apply zs | apply zr | apply zt)); exact HO399.out) (by decide)) hk (fun _ h => h.2)) (fun _ h => h.1)); have n1_ := zk (hb); have n2_ := zk (hi); clear HO399; clear HB; clear HI396; have HO399 := n0_; have HB := n1_; have HI396 := n2_; clear n0_ n1_ n2_; (try clear hb); (try clear hb2); (try clear hk); (try clear hi)))
   go_ret2
   exact ⟨_, by first | rfl | (simp [errW_none, errW_some] <;> rfl) | (simp [*, errW_none, errW_some] <;> rfl), by (with_reducible repeat (first | apply zs | apply zr | apply zt)); exact HO399.out, by repeat (first | (with_reducible first | exact HB.out | apply za | apply zd | apply ze | refine below_set ?_ (IsS102.ge HI396.out)) | exact HB.out)⟩

/-! ### spec_l2Word: function 201 -/
def spec_l2Word.l0 : Nat → ByteArray → Int → Int → Option (Bool)
 | 0, _, _, _ => none
 | k + 1, x0, x5, x6 => if x6 < (x0.size : Int) then (if 0 ≤ x6 then (if (bt x0 x6) = 73 then (spec_l2Word.l0 k x0 (wrap64 (x5 + 1)) (wrap64 (x6 + 1))) else (if (bt x0 x6) = 79 then (if x5 > 0 then (spec_l2Word.l0 k x0 (wrap64 (x5 - 1)) (wrap64 (x6 + 1))) else (some false)) else (some false))) else (none)) else (some (x5 == 0))
def spec_l2Word.f (k : Nat) (a0 : ByteArray) (a1 : Int) : Option (Bool) := if (a0.size : Int) = (wrap64 (2 * a1)) then (spec_l2Word.l0 k a0 0 0) else (some false)
set_option maxHeartbeats 8000000 in
set_option maxRecDepth 100000 in
theorem spec_l2Word.calls (k : Nat) (a0 : ByteArray) (a1 : Int) (r : Bool) (w : World) (h : spec_l2Word.f k a0 a1 = some r) :
 Calls Try.prog 201 #[.string a0, .int .i64 a1] w fun e w' => e = .returned (.bool r) ∧ Drawn0 w w' := by
 have H : (if (a0.size : Int) = (wrap64 (2 * a1)) then (spec_l2Word.l0 k a0 0 0) else (some false)) = some r := h
 clear h
 by_cases c3 : (a0.size : Int) = (wrap64 (2 * a1))
 · rw [if_pos c3] at H
   have c3b0 : ((a0.size : Int) == (wrap64 (2 * a1))) = true := beq_iff_eq.mpr c3
   have c3b1 : ((a0.size : Int) != (wrap64 (2 * a1))) = false := bne_eq_false_iff_eq.mpr c3
   clear c3
   have H' := zk H
   clear H
   go_enter Try.func201, Try.ntmps201
   go_wp2
   go_loopg [5, 6] k (fun kq v5 v6 w' => ∃ (x5_1 : Int) (x6_1 : Int), v5 = .int .i64 x5_1 ∧ v6 = .int .i64 x6_1 ∧ Aside0 (spec_l2Word.l0 kq a0 x5_1 x6_1 = some r) ∧ Aside0 (kq ≤ k) ∧ Drawn0 w w')
   case atStart => exact ⟨(0), (0), (by first | rfl | (simp; done) | (simp [*]; done)), (by first | rfl | (simp; done) | (simp [*]; done)), H', ⟨Nat.le_refl _⟩, by repeat (first | exact Drawn0.refl _ | apply Drawn0.step)⟩
   case round =>
    clear H'
    try clear c2
    try clear p2
    try clear c3
    try clear c3b0
    try clear c3b1
    obtain ⟨x5_1, x6_1, rfl, rfl, HA, HK1, ⟨m1, rfl⟩⟩ := hrel
    cases gk with
    | zero => exact absurd HA.out (by simp [spec_l2Word.l0])
    | succ k1 =>
     have H := HA.out
     clear HA
     simp only [spec_l2Word.l0] at H
     by_cases c4 : x6_1 < (a0.size : Int)
     · rw [if_pos c4] at H
       have c4b0 : decide (x6_1 < (a0.size : Int)) = true := decide_eq_true c4
       clear c4
       by_cases c5 : 0 ≤ x6_1
       · rw [if_pos c5] at H
         have c5b0 : decide (0 ≤ x6_1) = true := decide_eq_true c5
         clear c5
         by_cases c7 : (bt a0 x6_1) = 73
         · rw [if_pos c7] at H
           have c7b0 : ((bt a0 x6_1) == 73) = true := beq_iff_eq.mpr c7
           have c7b1 : ((bt a0 x6_1) != 73) = false := bne_eq_false_iff_eq.mpr c7
           clear c7
           have H' := zk H
           clear H
           have p6 : 0 ≤ (x6_1 : Int) := zo (by assumption)
           have q6 : x6_1 < (a0.size : Int) := zo (by assumption)
           have hx6 := bt_at a0 x6_1
           replace p6 := eq_true p6
           replace q6 := eq_true q6
           go_wp2
           go_roundg k1
           case measure => have := HK1.out; omega
           case rel => exact ⟨(wrap64 (x5_1 + 1)), (wrap64 (x6_1 + 1)), (by first | rfl | (simp; done) | (simp [*]; done)), (by first | rfl | (simp; done) | (simp [*]; done)), H', ⟨by have := HK1.out; omega⟩, by repeat (first | exact Drawn0.refl _ | apply Drawn0.step)⟩
         · rw [if_neg c7] at H
           have c7b0 : ((bt a0 x6_1) == 73) = false := beq_eq_false_iff_ne.mpr c7
           have c7b1 : ((bt a0 x6_1) != 73) = true := bne_iff_ne.mpr c7
           by_cases c9 : (bt a0 x6_1) = 79
           · rw [if_pos c9] at H
             have c9b0 : ((bt a0 x6_1) == 79) = true := beq_iff_eq.mpr c9
             have c9b1 : ((bt a0 x6_1) != 79) = false := bne_eq_false_iff_eq.mpr c9
             clear c9
             by_cases c10 : x5_1 > 0
             · rw [if_pos c10] at H
               have c10b0 : decide (0 < x5_1) = true := decide_eq_true c10
               clear c10
               have H' := zk H
               clear H
               have p6 : 0 ≤ (x6_1 : Int) := zo (by assumption)
               have q6 : x6_1 < (a0.size : Int) := zo (by assumption)
               have hx6 := bt_at a0 x6_1
               replace p6 := eq_true p6
               replace q6 := eq_true q6
               have p8 : 0 ≤ (x6_1 : Int) := zo (by assumption)
               have q8 : x6_1 < (a0.size : Int) := zo (by assumption)
               have hx8 := bt_at a0 x6_1
               replace p8 := eq_true p8
               replace q8 := eq_true q8
               go_wp2
               go_roundg k1
               case measure => have := HK1.out; omega
               case rel => exact ⟨(wrap64 (x5_1 - 1)), (wrap64 (x6_1 + 1)), (by first | rfl | (simp; done) | (simp [*]; done)), (by first | rfl | (simp; done) | (simp [*]; done)), H', ⟨by have := HK1.out; omega⟩, by repeat (first | exact Drawn0.refl _ | apply Drawn0.step)⟩
             · rw [if_neg c10] at H
               have c10b0 : decide (0 < x5_1) = false := decide_eq_false c10
               clear c10
               obtain rfl := Option.some.inj H
               have p6 : 0 ≤ (x6_1 : Int) := zo (by assumption)
               have q6 : x6_1 < (a0.size : Int) := zo (by assumption)
               have hx6 := bt_at a0 x6_1
               replace p6 := eq_true p6
               replace q6 := eq_true q6
               have p8 : 0 ≤ (x6_1 : Int) := zo (by assumption)
               have q8 : x6_1 < (a0.size : Int) := zo (by assumption)
               have hx8 := bt_at a0 x6_1
               replace p8 := eq_true p8
               replace q8 := eq_true q8
               go_wp2
               go_ret
               exact ⟨by first | rfl | (simp; done) | (simp [*]; done), by repeat (first | exact Drawn0.refl _ | apply Drawn0.step)⟩
           · rw [if_neg c9] at H
             have c9b0 : ((bt a0 x6_1) == 79) = false := beq_eq_false_iff_ne.mpr c9
             have c9b1 : ((bt a0 x6_1) != 79) = true := bne_iff_ne.mpr c9
             obtain rfl := Option.some.inj H
             have p6 : 0 ≤ (x6_1 : Int) := zo (by assumption)
             have q6 : x6_1 < (a0.size : Int) := zo (by assumption)
             have hx6 := bt_at a0 x6_1
             replace p6 := eq_true p6
             replace q6 := eq_true q6
             have p8 : 0 ≤ (x6_1 : Int) := zo (by assumption)
             have q8 : x6_1 < (a0.size : Int) := zo (by assumption)
             have hx8 := bt_at a0 x6_1
             replace p8 := eq_true p8
             replace q8 := eq_true q8
             go_wp2
             go_ret
             exact ⟨by first | rfl | (simp; done) | (simp [*]; done), by repeat (first | exact Drawn0.refl _ | apply Drawn0.step)⟩
       · rw [if_neg c5] at H
         exact absurd H (by simp)
     · rw [if_neg c4] at H
       have c4b0 : decide (x6_1 < (a0.size : Int)) = false := decide_eq_false c4
       clear c4
       obtain rfl := Option.some.inj H
       go_wp2
       go_ret
       exact ⟨by first | rfl | (simp; done) | (simp [*]; done), by repeat (first | exact Drawn0.refl _ | apply Drawn0.step)⟩
 · rw [if_neg c3] at H
   have c3b0 : ((a0.size : Int) == (wrap64 (2 * a1))) = false := beq_eq_false_iff_ne.mpr c3
   have c3b1 : ((a0.size : Int) != (wrap64 (2 * a1))) = true := bne_iff_ne.mpr c3
   obtain rfl := Option.some.inj H
   go_enter Try.func201, Try.ntmps201
   go_wp2
   go_ret
   exact ⟨by first | rfl | (simp; done) | (simp [*]; done), by repeat (first | exact Drawn0.refl _ | apply Drawn0.step)⟩

/-! ### spec_RunWord: function 93 -/
def spec_RunWord.f (k : Nat) (l0 : List Int) (a1 : ByteArray) : Option (List Int × Bool) := (spec_l2Order.f k l0).bind fun t411 => (if t411 = true then ((spec_l2Word.f k a1 (l0.length : Int)).bind fun t412 => (if t412 = true then ((spec_l2Run.f k l0 a1).bind fun t413 => (some (t413, true))) else (some ((([] : List Int)), false)))) else (some ((([] : List Int)), false)))
set_option maxHeartbeats 8000000 in
set_option maxRecDepth 100000 in
theorem spec_RunWord.calls (k : Nat) (A0 : Option Addr) (c0 : Nat) (l0 : List Int) (a1 : ByteArray) (r1 : List Int) (r2 : Bool) (w : World) (hr0 : Kd.C (Kd.int .i64) w A0 l0.length l0) (hc0 : l0.length ≤ c0) (h : spec_RunWord.f k l0 a1 = some (r1, r2)) :
 Calls Try.prog 93 #[.slice A0 l0.length c0, .string a1] w fun e w' => ∃ v0_ : Value, e = .returned (.tuple #[v0_, .bool r2]) ∧ Kd.R (Kd.int .i64) 3 w' w.heap.size (fun _ => True) v0_ r1 ∧ Below w.heap.size w w' := by
 have HR0 := zk hr0
 have HC0 := zk hc0
 clear hr0 hc0
 have HB := zk (Below.refl w.heap.size w)
 have H : ((spec_l2Order.f k l0).bind fun t411 => (if t411 = true then ((spec_l2Word.f k a1 (l0.length : Int)).bind fun t412 => (if t412 = true then ((spec_l2Run.f k l0 a1).bind fun t413 => (some (t413, true))) else (some ((([] : List Int)), false)))) else (some ((([] : List Int)), false)))) = some (r1, r2) := h
 clear h
 replace H := Option.bind_eq_some_iff.mp H
 obtain ⟨t411, A30, H⟩ := H
 try dsimp only at H
 have A3 := zk A30
 clear A30
 by_cases c4 : t411 = true
 · subst c4
   have H1 : ((spec_l2Word.f k a1 (l0.length : Int)).bind fun t412 => (if t412 = true then ((spec_l2Run.f k l0 a1).bind fun t413 => (some (t413, true))) else (some ((([] : List Int)), false)))) = some (r1, r2) := by rw [if_pos rfl] at H; exact H
   clear H
   have H := H1
   clear H1
   replace H := Option.bind_eq_some_iff.mp H
   obtain ⟨t412, A50, H⟩ := H
   try dsimp only at H
   have A5 := zk A50
   clear A50
   by_cases c6 : t412 = true
   · subst c6
     have H1 : ((spec_l2Run.f k l0 a1).bind fun t413 => (some (t413, true))) = some (r1, r2) := by rw [if_pos rfl] at H; exact H
     clear H
     have H := H1
     clear H1
     replace H := Option.bind_eq_some_iff.mp H
     obtain ⟨t413, A70, H⟩ := H
     try dsimp only at H
     have A7 := zk A70
     clear A70
     simp only [Option.some.injEq, Prod.mk.injEq] at H
     obtain ⟨rfl, rfl⟩ := H
     go_enter Try.func93, Try.ntmps93
     go_wp2_with (first | ((with_reducible refine gate_callee (f := 142) rfl ?_); refine goesL_ (some 7) rfl rfl Try.func142 (by kernel_rfl) rfl #[.slice A0 l0.length c0] rfl (by (try simp only [List.map_toArray, List.map_cons, List.map_nil]); first | done | rfl | (simp only [List.length_drop, List.length_take]; rfl)) ?_; (with_reducible refine (spec_l2Order.calls k _ _ l0 true _ ?side1 ?side2 A3.out).mono ?_); (case side1 => repeat (first | exact HR0.out | (with_reducible refine zv ?_ _) | (with_reducible refine zu ?_ _) | (with_reducible refine zw ?_))); (case side2 => exact HC0.out); rintro e w' ⟨rfl, ⟨nd, rfl⟩⟩; refine ⟨_, rfl, ?_⟩) | (go_at_call 201; (with_reducible refine (spec_l2Word.calls k a1 (l0.length : Int) true _ A5.out).mono ?_); rintro e w' ⟨rfl, ⟨nd, rfl⟩⟩) | ((with_reducible refine gate_callee (f := 152) rfl ?_); refine goesL_ (some 19) rfl rfl Try.func152 (by kernel_rfl) rfl #[.slice A0 l0.length c0, .string a1] rfl (by (try simp only [List.map_toArray, List.map_cons, List.map_nil]); first | done | rfl | (simp only [List.length_drop, List.length_take]; rfl)) ?_; (with_reducible refine (spec_l2Run.calls k _ _ l0 a1 t413 _ ?side1 ?side2 A7.out).mono ?_); (case side1 => repeat (first | exact HR0.out | (with_reducible refine zv ?_ _) | (with_reducible refine zu ?_ _) | (with_reducible refine zw ?_))); (case side2 => exact HC0.out); rintro e w8 ⟨v414, rfl, ho0, hb⟩; refine ⟨_, rfl, ?_⟩; have n0_ := zk (Kd.R_lower ho0 (below_size (by repeat (first | exact HB.out | apply za | apply zd | apply ze)))); have n1_ := zk (below_step (by repeat (first | exact HB.out | apply za | apply zd | apply ze)) hb); clear HB; have HO415 := n0_; have HB := n1_; clear n0_ n1_; (try clear hb); (try clear hb2); (try clear hk); (try clear hi); (try clear ho0)))
     go_ret2
     exact ⟨_, by first | rfl | (simp [errW_none, errW_some] <;> rfl) | (simp [*, errW_none, errW_some] <;> rfl), by (with_reducible repeat (first | apply zs | apply zr | apply zt)); exact HO415.out, by repeat (first | exact HB.out | apply za | apply zd | apply ze)⟩
   · replace c6 := Bool.eq_false_iff.mpr c6
     subst c6
     have H1 : (some ((([] : List Int)), false)) = some (r1, r2) := by rw [if_neg (show ¬ (false = true) by decide)] at H; exact H
     clear H
     have H := H1
     clear H1
     obtain ⟨y416, hy416⟩ : ∃ y_ : List Int, y_ = (([] : List Int)) := ⟨_, rfl⟩
     replace H : (some (y416, false)) = some (r1, r2) := by first | (rw [hy416]; with_reducible exact H) | (have H2_ := (Option.bind_some _ _).symm.trans H; rw [hy416]; with_reducible exact H2_) | (have H2_ := (Option.bind_some _ _).symm.trans H; with_reducible exact H2_) | with_reducible exact H | (rw [hy416]; exact H) | exact H
     have Ny416 := zk hy416
     clear hy416
     simp only [Option.some.injEq, Prod.mk.injEq] at H
     obtain ⟨rfl, rfl⟩ := H
     go_enter Try.func93, Try.ntmps93
     go_wp2_with (first | ((with_reducible refine gate_callee (f := 142) rfl ?_); refine goesL_ (some 7) rfl rfl Try.func142 (by kernel_rfl) rfl #[.slice A0 l0.length c0] rfl (by (try simp only [List.map_toArray, List.map_cons, List.map_nil]); first | done | rfl | (simp only [List.length_drop, List.length_take]; rfl)) ?_; (with_reducible refine (spec_l2Order.calls k _ _ l0 true _ ?side1 ?side2 A3.out).mono ?_); (case side1 => repeat (first | exact HR0.out | (with_reducible refine zv ?_ _) | (with_reducible refine zu ?_ _) | (with_reducible refine zw ?_))); (case side2 => exact HC0.out); rintro e w' ⟨rfl, ⟨nd, rfl⟩⟩; refine ⟨_, rfl, ?_⟩) | (go_at_call 201; (with_reducible refine (spec_l2Word.calls k a1 (l0.length : Int) false _ A5.out).mono ?_); rintro e w' ⟨rfl, ⟨nd, rfl⟩⟩) | ((with_reducible refine gate_dst (N := 16) rfl ?_); (try (refine gate_guard (by rfl) ?_; dsimp only)); refine Kd.R_lit (Kd.int .i64) _ 3 ?hg (N := 16) ?hd (xs := ([] : List Int)) (inner := []) (ok := fun _ => True) (okp := fun _ => True) ?hr ?hp (fun _ hk => hk) trivial (Below.refl _ _) (Nat.le_refl _) (by simp) ?_; (case hd => rfl); (case hg => rfl); (case hr => first | (go_simp; done) | (go_simp; rfl)); (case hp => exact (Reps.none _ _)); intro v417 w9 ho10 hb hg_ hnew_; clear hg_ hnew_; (first | rw [← Ny416.out] at ho10 | (simp only [Int.reduceToNat] at ho10; rw [← Ny416.out] at ho10)); have n0_ := zk (Kd.R_lower ho10 (below_size (by repeat (first | exact HB.out | apply za | apply zd | apply ze)))); have n1_ := zk (below_step (by repeat (first | exact HB.out | apply za | apply zd | apply ze)) hb); clear HB; have HO418 := n0_; have HB := n1_; clear n0_ n1_; clear hb ho10))
     go_ret2
     exact ⟨_, by first | rfl | (simp [errW_none, errW_some] <;> rfl) | (simp [*, errW_none, errW_some] <;> rfl), by (with_reducible repeat (first | apply zs | apply zr | apply zt)); exact HO418.out, by repeat (first | exact HB.out | apply za | apply zd | apply ze)⟩
 · replace c4 := Bool.eq_false_iff.mpr c4
   subst c4
   have H1 : (some ((([] : List Int)), false)) = some (r1, r2) := by rw [if_neg (show ¬ (false = true) by decide)] at H; exact H
   clear H
   have H := H1
   clear H1
   obtain ⟨y419, hy419⟩ : ∃ y_ : List Int, y_ = (([] : List Int)) := ⟨_, rfl⟩
   replace H : (some (y419, false)) = some (r1, r2) := by first | (rw [hy419]; with_reducible exact H) | (have H2_ := (Option.bind_some _ _).symm.trans H; rw [hy419]; with_reducible exact H2_) | (have H2_ := (Option.bind_some _ _).symm.trans H; with_reducible exact H2_) | with_reducible exact H | (rw [hy419]; exact H) | exact H
   have Ny419 := zk hy419
   clear hy419
   simp only [Option.some.injEq, Prod.mk.injEq] at H
   obtain ⟨rfl, rfl⟩ := H
   go_enter Try.func93, Try.ntmps93
   go_wp2_with (first | ((with_reducible refine gate_callee (f := 142) rfl ?_); refine goesL_ (some 7) rfl rfl Try.func142 (by kernel_rfl) rfl #[.slice A0 l0.length c0] rfl (by (try simp only [List.map_toArray, List.map_cons, List.map_nil]); first | done | rfl | (simp only [List.length_drop, List.length_take]; rfl)) ?_; (with_reducible refine (spec_l2Order.calls k _ _ l0 false _ ?side1 ?side2 A3.out).mono ?_); (case side1 => repeat (first | exact HR0.out | (with_reducible refine zv ?_ _) | (with_reducible refine zu ?_ _) | (with_reducible refine zw ?_))); (case side2 => exact HC0.out); rintro e w' ⟨rfl, ⟨nd, rfl⟩⟩; refine ⟨_, rfl, ?_⟩) | ((with_reducible refine gate_dst (N := 16) rfl ?_); (try (refine gate_guard (by rfl) ?_; dsimp only)); refine Kd.R_lit (Kd.int .i64) _ 3 ?hg (N := 16) ?hd (xs := ([] : List Int)) (inner := []) (ok := fun _ => True) (okp := fun _ => True) ?hr ?hp (fun _ hk => hk) trivial (Below.refl _ _) (Nat.le_refl _) (by simp) ?_; (case hd => rfl); (case hg => rfl); (case hr => first | (go_simp; done) | (go_simp; rfl)); (case hp => exact (Reps.none _ _)); intro v420 w11 ho12 hb hg_ hnew_; clear hg_ hnew_; (first | rw [← Ny419.out] at ho12 | (simp only [Int.reduceToNat] at ho12; rw [← Ny419.out] at ho12)); have n0_ := zk (Kd.R_lower ho12 (below_size (by repeat (first | exact HB.out | apply za | apply zd | apply ze)))); have n1_ := zk (below_step (by repeat (first | exact HB.out | apply za | apply zd | apply ze)) hb); clear HB; have HO421 := n0_; have HB := n1_; clear n0_ n1_; clear hb ho12))
   go_ret2
   exact ⟨_, by first | rfl | (simp [errW_none, errW_some] <;> rfl) | (simp [*, errW_none, errW_some] <;> rfl), by (with_reducible repeat (first | apply zs | apply zr | apply zt)); exact HO421.out, by repeat (first | exact HB.out | apply za | apply zd | apply ze)⟩

/-! ### spec_DrawWordTo: function 94 -/
def spec_DrawWordTo.j0 : Nat → List Int → ByteArray → Bool → List Int → Int → Int → Option (List Int × List Int)
 | 0, _, _, _, _, _, _ => none
 | k + 1, x5, x6, x28, x423000, x423001, x423002 => if x28 = true then ((spec_l2Run.f k x5 x6).bind fun t436 => (some (x5, t436))) else ((spec_l1Cur_order.f k x423000 x423001 x423002).bind fun bt439 => (some (x5, bt439.1)))
def spec_DrawWordTo.f (k : Nat) (l0 : List Int) : Option (List Int × List Int) := (spec_l1Cur_order.f k l0 0 0).bind fun bt423 => ((spec_l1Cur_word.f k l0 bt423.2.1 bt423.2.2 (bt423.1.length : Int)).bind fun bt428 => ((spec_l2Order.f k bt423.1).bind fun t431 => (if t431 = true then ((spec_l2Word.f k bt428.1 (bt423.1.length : Int)).bind fun t432 => (if t432 = true then ((spec_l1Cur_one.f l0 bt428.2.1 bt428.2.2 4).bind fun bt433 => (spec_DrawWordTo.j0 k bt423.1 bt428.1 (!bt433.1) l0 bt433.2.1 bt433.2.2)) else (spec_DrawWordTo.j0 k bt423.1 bt428.1 false l0 bt428.2.1 bt428.2.2))) else (spec_DrawWordTo.j0 k bt423.1 bt428.1 false l0 bt428.2.1 bt428.2.2))))
set_option maxHeartbeats 8000000 in
set_option maxRecDepth 100000 in
theorem spec_DrawWordTo.calls (k : Nat) (A0 : Option Addr) (c0 : Nat) (l0 : List Int) (r1 : List Int) (r2 : List Int) (w : World) (hr0 : Kd.C (Kd.int .u8) w A0 l0.length l0) (hc0 : l0.length ≤ c0) (h : spec_DrawWordTo.f k l0 = some (r1, r2)) :
 Calls Try.prog 94 #[.slice A0 l0.length c0] w fun e w' => ∃ v0_ v1_ : Value, e = .returned (.tuple #[v0_, v1_]) ∧ Kd.R (Kd.int .i64) 3 w' w.heap.size (fun k_ => some k_ ≠ (v1_ : Value).ownBlock) v0_ r1 ∧ Kd.R (Kd.int .i64) 3 w' w.heap.size (fun k_ => some k_ ≠ (v0_ : Value).ownBlock) v1_ r2 ∧ Below w.heap.size w w' := by
 have hu102 := Try.underlying102
 have HR0 := zk hr0
 have HC0 := zk hc0
 clear hr0 hc0
 have HB := zk (Below.refl w.heap.size w)
 have H : ((spec_l1Cur_order.f k l0 0 0).bind fun bt423 => ((spec_l1Cur_word.f k l0 bt423.2.1 bt423.2.2 (bt423.1.length : Int)).bind fun bt428 => ((spec_l2Order.f k bt423.1).bind fun t431 => (if t431 = true then ((spec_l2Word.f k bt428.1 (bt423.1.length : Int)).bind fun t432 => (if t432 = true then ((spec_l1Cur_one.f l0 bt428.2.1 bt428.2.2 4).bind fun bt433 => (spec_DrawWordTo.j0 k bt423.1 bt428.1 (!bt433.1) l0 bt433.2.1 bt433.2.2)) else (spec_DrawWordTo.j0 k bt423.1 bt428.1 false l0 bt428.2.1 bt428.2.2))) else (spec_DrawWordTo.j0 k bt423.1 bt428.1 false l0 bt428.2.1 bt428.2.2))))) = some (r1, r2) := h
 clear h
 replace H := Option.bind_eq_some_iff.mp H
 obtain ⟨⟨t423, t426, t427⟩, A20, H⟩ := H
 try dsimp only at H
 have A2 := zk A20
 clear A20
 replace H := Option.bind_eq_some_iff.mp H
 obtain ⟨⟨t428, t429, t430⟩, A30, H⟩ := H
 try dsimp only at H
 have A3 := zk A30
 clear A30
 have HC4 := zk H
 clear H
 go_enter Try.func94, Try.ntmps94
 go_upto_region 4 with (first | ((with_reducible refine gate_dst (N := 9) rfl ?_); (try (refine gate_guard (by rfl) ?_; dsimp only)); refine box_event ?hg (N := 9) ?hd (cs := #[.slice A0 l0.length c0, .int .i64 0, .int .u64 0]) (t := 102) ?hr ?_; (case hd => rfl); (case hg => rfl); (case hr => first | (go_simp; done) | (go_simp; rfl)); intro gb422 hg w5 hbox hb; have n0_ := zk (below_step (by repeat (first | exact HB.out | apply za | apply zd | apply ze)) hb); have n1_ := zk ((⟨_, _, hbox, (by rw [hg]; exact (below_size (by repeat (first | exact HB.out | apply za | apply zd | apply ze))) : w.heap.size ≤ gb422), HR0.out⟩ : IsS102 w _ gb422 l0 0 0)); have n2_ := zk ((by rw [hg]; exact (below_size (by repeat (first | exact HB.out | apply za | apply zd | apply ze))) : w.heap.size ≤ gb422)); have n3_ := zk ((by rw [hg]; exact (below_size (by repeat (first | exact HB.out | apply za | apply zd | apply ze))) : w.heap.size ≤ gb422)); clear HB; have HB := n0_; have HI422 := n1_; have GW422 := n2_; have GE422 := n3_; clear n0_ n1_ n2_ n3_; clear hb hbox hg) | ((with_reducible refine gate_callee (f := 166) rfl ?_); refine goesL_ (some 11) rfl rfl Try.func166 (by kernel_rfl) rfl #[.pointer (some ⟨gb422, 0, none⟩)] rfl (by (try simp only [List.map_toArray, List.map_cons, List.map_nil]); first | done | rfl | (simp only [List.length_drop, List.length_take]; rfl)) ?_; (with_reducible refine (spec_l1Cur_order.calls k gb422 l0 0 0 t423 t426 t427 w _ ?side1 ?side2 A2.out).mono ?_); (case side1 => repeat (first | exact HI422.out | apply IsS102.alloc | apply IsS102.drewN | apply IsS102.drew | apply IsS102.set_1 | apply IsS102.set_2)); (case side2 => repeat (first | (with_reducible first | exact HB.out | apply za | apply zd | apply ze | refine below_set ?_ (IsS102.ge HI422.out)) | exact HB.out)); rintro e w6 ⟨v424, rfl, ho0, hi, hb, hk⟩; refine ⟨_, rfl, ?_⟩; have n0_ := zk (Kd.R_lower ho0 (below_size (by repeat (first | (with_reducible first | exact HB.out | apply za | apply zd | apply ze | refine below_set ?_ (IsS102.ge HI422.out)) | exact HB.out)))); have n1_ := zk (hb); have n2_ := zk (hi); clear HB; clear HI422; have HO425 := n0_; have HB := n1_; have HI422 := n2_; clear n0_ n1_ n2_; (try clear hb); (try clear hb2); (try clear hk); (try clear hi); (try clear ho0); obtain ⟨Ao7, co7, eo7⟩ := Kd.R_slice HO425.out; subst eo7) | ((with_reducible refine gate_callee (f := 200) rfl ?_); refine goesL_ (some 15) rfl rfl Try.func200 (by kernel_rfl) rfl #[.pointer (some ⟨gb422, 0, none⟩), .int .i64 (t423.length : Int)] rfl (by (try simp only [List.map_toArray, List.map_cons, List.map_nil]); first | done | rfl | (simp only [List.length_drop, List.length_take]; rfl)) ?_; (with_reducible refine (spec_l1Cur_word.calls k gb422 l0 t426 t427 (t423.length : Int) t428 t429 t430 w _ ?side1 ?side2 A3.out).mono ?_); (case side1 => repeat (first | exact HI422.out | apply IsS102.alloc | apply IsS102.drewN | apply IsS102.drew | apply IsS102.set_1 | apply IsS102.set_2)); (case side2 => repeat (first | (with_reducible first | exact HB.out | apply za | apply zd | apply ze | refine below_set ?_ (IsS102.ge HI422.out)) | exact HB.out)); rintro e w8 ⟨rfl, hi, hb, hk⟩; refine ⟨_, rfl, ?_⟩; have n0_ := zk (Kd.R_mono (Kd.R_keep (IsS102.apart (show IsS102 w _ gb422 l0 t426 t427 from by repeat (first | exact HI422.out | apply IsS102.alloc | apply IsS102.drewN | apply IsS102.drew | apply IsS102.set_1 | apply IsS102.set_2)) (by (with_reducible repeat (first | apply zs | apply zr | apply zt)); exact HO425.out) (by decide)) hk (fun _ h => h.2)) (fun _ h => h.1)); have n1_ := zk (hb); have n2_ := zk (hi); clear HO425; clear HB; clear HI422; have HO425 := n0_; have HB := n1_; have HI422 := n2_; clear n0_ n1_ n2_; (try clear hb); (try clear hb2); (try clear hk); (try clear hi)))
 (try simp only [Act.put, List.setIfInBounds_toArray, List.set_cons_zero, List.set_cons_succ])
 go_cut [28] (fun v28 wc => ∃ (kq : Nat) (x28_3 : Bool) (x423001_3 : Int) (x423002_3 : Int), v28 = .bool x28_3 ∧ Aside0 (spec_DrawWordTo.j0 kq t423 t428 x28_3 l0 x423001_3 x423002_3 = some (r1, r2)) ∧ Aside0 (kq ≤ k) ∧ Aside0 (Kd.R (Kd.int .i64) 3 wc w.heap.size (fun _ => True) (.slice Ao7 t423.length co7) t423) ∧ Aside0 (IsS102 w wc gb422 l0 x423001_3 x423002_3) ∧ Aside0 (Below w.heap.size w wc))
 case first =>
  have H := HC4.out
  clear HC4
  replace H := Option.bind_eq_some_iff.mp H
  obtain ⟨t431, A90, H⟩ := H
  try dsimp only at H
  have A9 := zk A90
  clear A90
  by_cases c10 : t431 = true
  · subst c10
    have H1 : ((spec_l2Word.f k t428 (t423.length : Int)).bind fun t432 => (if t432 = true then ((spec_l1Cur_one.f l0 t429 t430 4).bind fun bt433 => (spec_DrawWordTo.j0 k t423 t428 (!bt433.1) l0 bt433.2.1 bt433.2.2)) else (spec_DrawWordTo.j0 k t423 t428 false l0 t429 t430))) = some (r1, r2) := by rw [if_pos rfl] at H; exact H
    clear H
    have H := H1
    clear H1
    replace H := Option.bind_eq_some_iff.mp H
    obtain ⟨t432, A110, H⟩ := H
    try dsimp only at H
    have A11 := zk A110
    clear A110
    by_cases c12 : t432 = true
    · subst c12
      have H1 : ((spec_l1Cur_one.f l0 t429 t430 4).bind fun bt433 => (spec_DrawWordTo.j0 k t423 t428 (!bt433.1) l0 bt433.2.1 bt433.2.2)) = some (r1, r2) := by rw [if_pos rfl] at H; exact H
      clear H
      have H := H1
      clear H1
      replace H := Option.bind_eq_some_iff.mp H
      obtain ⟨⟨t433, t434, t435⟩, A130, H⟩ := H
      try dsimp only at H
      have A13 := zk A130
      clear A130
      have H' := zk H
      clear H
      go_wp2_with (first | ((with_reducible refine gate_callee (f := 142) rfl ?_); refine goesL_ (some 17) rfl rfl Try.func142 (by kernel_rfl) rfl #[.slice Ao7 t423.length co7] rfl (by (try simp only [List.map_toArray, List.map_cons, List.map_nil]); first | done | rfl | (simp only [List.length_drop, List.length_take]; rfl)) ?_; (with_reducible refine (spec_l2Order.calls k _ _ t423 true _ ?side1 ?side2 A9.out).mono ?_); (case side1 => repeat (first | exact (Kd.R_reads' HO425.out).2.2 | (with_reducible refine zv ?_ _) | (with_reducible refine zu ?_ _) | (with_reducible refine zw ?_))); (case side2 => exact (Kd.R_reads' HO425.out).2.1); rintro e w' ⟨rfl, ⟨nd, rfl⟩⟩; refine ⟨_, rfl, ?_⟩) | (go_at_call 201; (with_reducible refine (spec_l2Word.calls k t428 (t423.length : Int) true _ A11.out).mono ?_); rintro e w' ⟨rfl, ⟨nd, rfl⟩⟩) | (go_at_call 164; (with_reducible refine (spec_l1Cur_one.calls gb422 l0 t429 t430 4 t433 t434 t435 w _ ?side1 ?side2 A13.out).mono ?_); (case side1 => repeat (first | exact HI422.out | apply IsS102.alloc | apply IsS102.drewN | apply IsS102.drew | apply IsS102.set_1 | apply IsS102.set_2)); (case side2 => repeat (first | (with_reducible first | exact HB.out | apply za | apply zd | apply ze | refine below_set ?_ (IsS102.ge HI422.out)) | exact HB.out)); rintro e w14 ⟨rfl, hi, hb, hk⟩; have n0_ := zk (Kd.R_mono (Kd.R_keep (IsS102.apart (show IsS102 w _ gb422 l0 t429 t430 from by repeat (first | exact HI422.out | apply IsS102.alloc | apply IsS102.drewN | apply IsS102.drew | apply IsS102.set_1 | apply IsS102.set_2)) (by (with_reducible repeat (first | apply zs | apply zr | apply zt)); exact HO425.out) (by decide)) hk (fun _ h => h.2)) (fun _ h => h.1)); have n1_ := zk (hb); have n2_ := zk (hi); clear HO425; clear HB; clear HI422; have HO425 := n0_; have HB := n1_; have HI422 := n2_; clear n0_ n1_ n2_; (try clear hb); (try clear hb2); (try clear hk); (try clear hi)))
      go_meet
      case rel => exact ⟨_, (!t433), (t434), (t435), (by first | rfl | (simp; done) | (simp [*]; done)), H', ⟨by first | omega | exact Nat.le_refl _⟩, ⟨by (with_reducible repeat (first | apply zs | apply zr | apply zt)); exact HO425.out⟩, ⟨by repeat (first | exact HI422.out | apply IsS102.alloc | apply IsS102.drewN | apply IsS102.drew | apply IsS102.set_1 | apply IsS102.set_2)⟩, ⟨by repeat (first | (with_reducible first | exact HB.out | apply za | apply zd | apply ze | refine below_set ?_ (IsS102.ge HI422.out)) | exact HB.out)⟩⟩
    · replace c12 := Bool.eq_false_iff.mpr c12
      subst c12
      have H1 : (spec_DrawWordTo.j0 k t423 t428 false l0 t429 t430) = some (r1, r2) := by rw [if_neg (show ¬ (false = true) by decide)] at H; exact H
      clear H
      have H := H1
      clear H1
      have H' := zk H
      clear H
      go_wp2_with (first | ((with_reducible refine gate_callee (f := 142) rfl ?_); refine goesL_ (some 17) rfl rfl Try.func142 (by kernel_rfl) rfl #[.slice Ao7 t423.length co7] rfl (by (try simp only [List.map_toArray, List.map_cons, List.map_nil]); first | done | rfl | (simp only [List.length_drop, List.length_take]; rfl)) ?_; (with_reducible refine (spec_l2Order.calls k _ _ t423 true _ ?side1 ?side2 A9.out).mono ?_); (case side1 => repeat (first | exact (Kd.R_reads' HO425.out).2.2 | (with_reducible refine zv ?_ _) | (with_reducible refine zu ?_ _) | (with_reducible refine zw ?_))); (case side2 => exact (Kd.R_reads' HO425.out).2.1); rintro e w' ⟨rfl, ⟨nd, rfl⟩⟩; refine ⟨_, rfl, ?_⟩) | (go_at_call 201; (with_reducible refine (spec_l2Word.calls k t428 (t423.length : Int) false _ A11.out).mono ?_); rintro e w' ⟨rfl, ⟨nd, rfl⟩⟩))
      go_meet
      case rel => exact ⟨_, (false), (t429), (t430), (by first | rfl | (simp; done) | (simp [*]; done)), H', ⟨by first | omega | exact Nat.le_refl _⟩, ⟨by (with_reducible repeat (first | apply zs | apply zr | apply zt)); exact HO425.out⟩, ⟨by repeat (first | exact HI422.out | apply IsS102.alloc | apply IsS102.drewN | apply IsS102.drew | apply IsS102.set_1 | apply IsS102.set_2)⟩, ⟨by repeat (first | (with_reducible first | exact HB.out | apply za | apply zd | apply ze | refine below_set ?_ (IsS102.ge HI422.out)) | exact HB.out)⟩⟩
  · replace c10 := Bool.eq_false_iff.mpr c10
    subst c10
    have H1 : (spec_DrawWordTo.j0 k t423 t428 false l0 t429 t430) = some (r1, r2) := by rw [if_neg (show ¬ (false = true) by decide)] at H; exact H
    clear H
    have H := H1
    clear H1
    have H' := zk H
    clear H
    go_wp2_with (first | ((with_reducible refine gate_callee (f := 142) rfl ?_); refine goesL_ (some 17) rfl rfl Try.func142 (by kernel_rfl) rfl #[.slice Ao7 t423.length co7] rfl (by (try simp only [List.map_toArray, List.map_cons, List.map_nil]); first | done | rfl | (simp only [List.length_drop, List.length_take]; rfl)) ?_; (with_reducible refine (spec_l2Order.calls k _ _ t423 false _ ?side1 ?side2 A9.out).mono ?_); (case side1 => repeat (first | exact (Kd.R_reads' HO425.out).2.2 | (with_reducible refine zv ?_ _) | (with_reducible refine zu ?_ _) | (with_reducible refine zw ?_))); (case side2 => exact (Kd.R_reads' HO425.out).2.1); rintro e w' ⟨rfl, ⟨nd, rfl⟩⟩; refine ⟨_, rfl, ?_⟩))
    go_meet
    case rel => exact ⟨_, (false), (t429), (t430), (by first | rfl | (simp; done) | (simp [*]; done)), H', ⟨by first | omega | exact Nat.le_refl _⟩, ⟨by (with_reducible repeat (first | apply zs | apply zr | apply zt)); exact HO425.out⟩, ⟨by repeat (first | exact HI422.out | apply IsS102.alloc | apply IsS102.drewN | apply IsS102.drew | apply IsS102.set_1 | apply IsS102.set_2)⟩, ⟨by repeat (first | (with_reducible first | exact HB.out | apply za | apply zd | apply ze | refine below_set ?_ (IsS102.ge HI422.out)) | exact HB.out)⟩⟩
 case rest =>
  clear HC4
  try clear c1
  try clear c2
  try clear p2
  try clear c9
  try clear c10
  try clear c12
  try clear c14
  obtain ⟨kq, x28_3, x423001_3, x423002_3, rfl, HA, HJ3, HO_5, HI422, HB⟩ := hcut
  cases kq with
  | zero => exact absurd HA.out (by simp [spec_DrawWordTo.j0])
  | succ kj3 =>
   have H := HA.out
   clear HA
   simp only [spec_DrawWordTo.j0] at H
   by_cases c15 : x28_3 = true
   · subst c15
     have H1 : ((spec_l2Run.f kj3 t423 t428).bind fun t436 => (some (t423, t436))) = some (r1, r2) := by rw [if_pos rfl] at H; exact H
     clear H
     have H := H1
     clear H1
     replace H := Option.bind_eq_some_iff.mp H
     obtain ⟨t436, A160, H⟩ := H
     try dsimp only at H
     have A16 := zk A160
     clear A160
     simp only [Option.some.injEq, Prod.mk.injEq] at H
     obtain ⟨rfl, rfl⟩ := H
     go_wp2_with (first | ((with_reducible refine gate_callee (f := 152) rfl ?_); refine goesL_ (some 32) rfl rfl Try.func152 (by kernel_rfl) rfl #[.slice Ao7 t423.length co7, .string t428] rfl (by (try simp only [List.map_toArray, List.map_cons, List.map_nil]); first | done | rfl | (simp only [List.length_drop, List.length_take]; rfl)) ?_; (with_reducible refine (spec_l2Run.calls kj3 _ _ t423 t428 t436 _ ?side1 ?side2 A16.out).mono ?_); (case side1 => repeat (first | exact (Kd.R_reads' HO_5.out).2.2 | (with_reducible refine zv ?_ _) | (with_reducible refine zu ?_ _) | (with_reducible refine zw ?_))); (case side2 => exact (Kd.R_reads' HO_5.out).2.1); rintro e w17 ⟨v437, rfl, ho0, hb⟩; refine ⟨_, rfl, ?_⟩; have n0_ := zk (Kd.R_elder' (by (with_reducible repeat (first | apply zs | apply zr | apply zt)); exact HO_5.out) (Kd.R_base ho0) hb); have n1_ := zk (Kd.R_lower (Kd.R_new' ho0 (Kd.R_lt (by (with_reducible repeat (first | apply zs | apply zr | apply zt)); exact HO_5.out))) (below_size (by repeat (first | (with_reducible first | exact HB.out | apply za | apply zd | apply ze | refine below_set ?_ (IsS102.ge HI422.out)) | exact HB.out)))); have n2_ := zk (IsS102.below (by repeat (first | exact HI422.out | apply IsS102.alloc | apply IsS102.drewN | apply IsS102.drew | apply IsS102.set_1 | apply IsS102.set_2)) hb); have n3_ := zk (below_step (by repeat (first | (with_reducible first | exact HB.out | apply za | apply zd | apply ze | refine below_set ?_ (IsS102.ge HI422.out)) | exact HB.out)) hb); clear HO_5; clear HI422; clear HB; have HO_5 := n0_; have HO438 := n1_; have HI422 := n2_; have HB := n3_; clear n0_ n1_ n2_ n3_; (try clear hb); (try clear hb2); (try clear hk); (try clear hi); (try clear ho0)))
     go_ret2
     exact ⟨_, _, by first | rfl | (simp [errW_none, errW_some] <;> rfl) | (simp [*, errW_none, errW_some] <;> rfl), by (with_reducible repeat (first | apply zs | apply zr | apply zt)); exact Kd.R_mono HO_5.out (fun _ hk => hk.2), by (with_reducible repeat (first | apply zs | apply zr | apply zt)); exact Kd.R_mono HO438.out (fun _ hk => hk.2), by repeat (first | (with_reducible first | exact HB.out | apply za | apply zd | apply ze | refine below_set ?_ (IsS102.ge HI422.out)) | exact HB.out)⟩
   · replace c15 := Bool.eq_false_iff.mpr c15
     subst c15
     have H1 : ((spec_l1Cur_order.f kj3 l0 x423001_3 x423002_3).bind fun bt439 => (some (t423, bt439.1))) = some (r1, r2) := by rw [if_neg (show ¬ (false = true) by decide)] at H; exact H
     clear H
     have H := H1
     clear H1
     replace H := Option.bind_eq_some_iff.mp H
     obtain ⟨⟨t439, t442, t443⟩, A180, H⟩ := H
     try dsimp only at H
     have A18 := zk A180
     clear A180
     simp only [Option.some.injEq, Prod.mk.injEq] at H
     obtain ⟨rfl, rfl⟩ := H
     go_wp2_with (first | ((with_reducible refine gate_callee (f := 166) rfl ?_); refine goesL_ (some 35) rfl rfl Try.func166 (by kernel_rfl) rfl #[.pointer (some ⟨gb422, 0, none⟩)] rfl (by (try simp only [List.map_toArray, List.map_cons, List.map_nil]); first | done | rfl | (simp only [List.length_drop, List.length_take]; rfl)) ?_; (with_reducible refine (spec_l1Cur_order.calls kj3 gb422 l0 x423001_3 x423002_3 t439 t442 t443 w _ ?side1 ?side2 A18.out).mono ?_); (case side1 => repeat (first | exact HI422.out | apply IsS102.alloc | apply IsS102.drewN | apply IsS102.drew | apply IsS102.set_1 | apply IsS102.set_2)); (case side2 => repeat (first | (with_reducible first | exact HB.out | apply za | apply zd | apply ze | refine below_set ?_ (IsS102.ge HI422.out)) | exact HB.out)); rintro e w19 ⟨v440, rfl, ho0, hi, hb, hk⟩; refine ⟨_, rfl, ?_⟩; have n0_ := zk (Kd.R_mono (Kd.R_told (Kd.R_oldK (IsS102.apart (show IsS102 w _ gb422 l0 x423001_3 x423002_3 from by repeat (first | exact HI422.out | apply IsS102.alloc | apply IsS102.drewN | apply IsS102.drew | apply IsS102.set_1 | apply IsS102.set_2)) (by (with_reducible repeat (first | apply zs | apply zr | apply zt)); exact HO_5.out) (by decide)) hk) (Kd.R_base ho0)) (fun _ h_ => h_.1)); have n1_ := zk (Kd.R_lower (Kd.R_new' ho0 (Kd.R_lt (by (with_reducible repeat (first | apply zs | apply zr | apply zt)); exact HO_5.out))) (below_size (by repeat (first | (with_reducible first | exact HB.out | apply za | apply zd | apply ze | refine below_set ?_ (IsS102.ge HI422.out)) | exact HB.out)))); have n2_ := zk (hb); have n3_ := zk (hi); clear HO_5; clear HB; clear HI422; have HO_5 := n0_; have HO441 := n1_; have HB := n2_; have HI422 := n3_; clear n0_ n1_ n2_ n3_; (try clear hb); (try clear hb2); (try clear hk); (try clear hi); (try clear ho0)))
     go_ret2
     exact ⟨_, _, by first | rfl | (simp [errW_none, errW_some] <;> rfl) | (simp [*, errW_none, errW_some] <;> rfl), by (with_reducible repeat (first | apply zs | apply zr | apply zt)); exact Kd.R_mono HO_5.out (fun _ hk => hk.2), by (with_reducible repeat (first | apply zs | apply zr | apply zt)); exact Kd.R_mono HO441.out (fun _ hk => hk.2), by repeat (first | (with_reducible first | exact HB.out | apply za | apply zd | apply ze | refine below_set ?_ (IsS102.ge HI422.out)) | exact HB.out)⟩

/-! ### impl_areOrders: function 194 -/
def impl_areOrders.f (k : Nat) (l0 : List Int) (l1 : List Int) : Option (Bool) := (impl_isOrder.f k l0).bind fun t444 => (if t444 = true then ((impl_isOrder.f k l1).bind fun t445 => (if t445 = true then (some ((l0.length : Int) == (l1.length : Int))) else (some false))) else (some false))
set_option maxHeartbeats 8000000 in
set_option maxRecDepth 100000 in
theorem impl_areOrders.calls (k : Nat) (A0 : Option Addr) (c0 : Nat) (l0 : List Int) (A1 : Option Addr) (c1 : Nat) (l1 : List Int) (r : Bool) (w : World) (hr0 : Kd.C (Kd.int .i64) w A0 l0.length l0) (hc0 : l0.length ≤ c0) (hr1 : Kd.C (Kd.int .i64) w A1 l1.length l1) (hc1 : l1.length ≤ c1) (h : impl_areOrders.f k l0 l1 = some r) :
 Calls Try.prog 194 #[.slice A0 l0.length c0, .slice A1 l1.length c1] w fun e w' => e = .returned (.bool r) ∧ Drawn0 w w' := by
 have HR0 := zk hr0
 have HC0 := zk hc0
 clear hr0 hc0
 have HR1 := zk hr1
 have HC1 := zk hc1
 clear hr1 hc1
 have H : ((impl_isOrder.f k l0).bind fun t444 => (if t444 = true then ((impl_isOrder.f k l1).bind fun t445 => (if t445 = true then (some ((l0.length : Int) == (l1.length : Int))) else (some false))) else (some false))) = some r := h
 clear h
 replace H := Option.bind_eq_some_iff.mp H
 obtain ⟨t444, A30, H⟩ := H
 try dsimp only at H
 have A3 := zk A30
 clear A30
 by_cases c4 : t444 = true
 · subst c4
   have H1 : ((impl_isOrder.f k l1).bind fun t445 => (if t445 = true then (some ((l0.length : Int) == (l1.length : Int))) else (some false))) = some r := by rw [if_pos rfl] at H; exact H
   clear H
   have H := H1
   clear H1
   replace H := Option.bind_eq_some_iff.mp H
   obtain ⟨t445, A50, H⟩ := H
   try dsimp only at H
   have A5 := zk A50
   clear A50
   by_cases c6 : t445 = true
   · subst c6
     have H1 : (some ((l0.length : Int) == (l1.length : Int))) = some r := by rw [if_pos rfl] at H; exact H
     clear H
     have H := H1
     clear H1
     obtain rfl := Option.some.inj H
     go_enter Try.func194, Try.ntmps194
     go_wp2_with (first | ((with_reducible refine gate_callee (f := 146) rfl ?_); refine goesL_ (some 6) rfl rfl Try.func146 (by kernel_rfl) rfl #[.slice A0 l0.length c0] rfl (by (try simp only [List.map_toArray, List.map_cons, List.map_nil]); first | done | rfl | (simp only [List.length_drop, List.length_take]; rfl)) ?_; (with_reducible refine (impl_isOrder.calls k _ _ l0 true _ ?side1 ?side2 A3.out).mono ?_); (case side1 => repeat (first | exact HR0.out | (with_reducible refine zv ?_ _) | (with_reducible refine zu ?_ _) | (with_reducible refine zw ?_))); (case side2 => exact HC0.out); rintro e w' ⟨rfl, ⟨nd, rfl⟩⟩; refine ⟨_, rfl, ?_⟩) | (go_at_call 146; (with_reducible refine (impl_isOrder.calls k _ _ l1 true _ ?side1 ?side2 A5.out).mono ?_); (case side1 => repeat (first | exact HR1.out | (with_reducible refine zv ?_ _) | (with_reducible refine zu ?_ _) | (with_reducible refine zw ?_))); (case side2 => exact HC1.out); rintro e w' ⟨rfl, ⟨nd, rfl⟩⟩))
     go_ret
     exact ⟨by first | rfl | (simp; done) | (simp [*]; done), by repeat (first | exact Drawn0.refl _ | apply Drawn0.step)⟩
   · replace c6 := Bool.eq_false_iff.mpr c6
     subst c6
     have H1 : (some false) = some r := by rw [if_neg (show ¬ (false = true) by decide)] at H; exact H
     clear H
     have H := H1
     clear H1
     obtain rfl := Option.some.inj H
     go_enter Try.func194, Try.ntmps194
     go_wp2_with (first | ((with_reducible refine gate_callee (f := 146) rfl ?_); refine goesL_ (some 6) rfl rfl Try.func146 (by kernel_rfl) rfl #[.slice A0 l0.length c0] rfl (by (try simp only [List.map_toArray, List.map_cons, List.map_nil]); first | done | rfl | (simp only [List.length_drop, List.length_take]; rfl)) ?_; (with_reducible refine (impl_isOrder.calls k _ _ l0 true _ ?side1 ?side2 A3.out).mono ?_); (case side1 => repeat (first | exact HR0.out | (with_reducible refine zv ?_ _) | (with_reducible refine zu ?_ _) | (with_reducible refine zw ?_))); (case side2 => exact HC0.out); rintro e w' ⟨rfl, ⟨nd, rfl⟩⟩; refine ⟨_, rfl, ?_⟩) | (go_at_call 146; (with_reducible refine (impl_isOrder.calls k _ _ l1 false _ ?side1 ?side2 A5.out).mono ?_); (case side1 => repeat (first | exact HR1.out | (with_reducible refine zv ?_ _) | (with_reducible refine zu ?_ _) | (with_reducible refine zw ?_))); (case side2 => exact HC1.out); rintro e w' ⟨rfl, ⟨nd, rfl⟩⟩))
     go_ret
     exact ⟨by first | rfl | (simp; done) | (simp [*]; done), by repeat (first | exact Drawn0.refl _ | apply Drawn0.step)⟩
 · replace c4 := Bool.eq_false_iff.mpr c4
   subst c4
   have H1 : (some false) = some r := by rw [if_neg (show ¬ (false = true) by decide)] at H; exact H
   clear H
   have H := H1
   clear H1
   obtain rfl := Option.some.inj H
   go_enter Try.func194, Try.ntmps194
   go_wp2_with (first | ((with_reducible refine gate_callee (f := 146) rfl ?_); refine goesL_ (some 6) rfl rfl Try.func146 (by kernel_rfl) rfl #[.slice A0 l0.length c0] rfl (by (try simp only [List.map_toArray, List.map_cons, List.map_nil]); first | done | rfl | (simp only [List.length_drop, List.length_take]; rfl)) ?_; (with_reducible refine (impl_isOrder.calls k _ _ l0 false _ ?side1 ?side2 A3.out).mono ?_); (case side1 => repeat (first | exact HR0.out | (with_reducible refine zv ?_ _) | (with_reducible refine zu ?_ _) | (with_reducible refine zw ?_))); (case side2 => exact HC0.out); rintro e w' ⟨rfl, ⟨nd, rfl⟩⟩; refine ⟨_, rfl, ?_⟩))
   go_ret
   exact ⟨by first | rfl | (simp; done) | (simp [*]; done), by repeat (first | exact Drawn0.refl _ | apply Drawn0.step)⟩

end Go.Proofs.Ytlkddcabjcejdaa.MFnStackWords
