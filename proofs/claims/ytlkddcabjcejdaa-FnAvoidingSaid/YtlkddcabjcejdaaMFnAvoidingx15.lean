/- Functions that FnAvoiding comes to, a walk for each: by wip/tools/mk.py and post.py. No condition. -/
import Derived.Test.YtlkddcabjcejdaaMFnAvoidingx0
import Derived.Test.YtlkddcabjcejdaaMFnAvoidingx1
import Derived.Test.YtlkddcabjcejdaaMFnAvoidingx3
import Derived.Test.YtlkddcabjcejdaaMFnAvoidingx4
import Derived.Test.YtlkddcabjcejdaaMFnAvoidingx12
namespace Go.Proofs.Ytlkddcabjcejdaa.MFnAvoiding
open Go.RowKit Go.Proofs.YtlkddcabjcejdaaW.PrintWords Go.Proofs.YtlkddcabjcejdaaW.PrintLast Go.Proofs.YtlkddcabjcejdaaW.PrintMore
attribute [local go_sem] max2_int min2_int max_two min_two max_three min_three max_four min_four
set_option linter.unusedVariables false
set_option linter.unusedSimpArgs false

/-! ### impl_ShapeOf: function 126 -/
def impl_ShapeOf.l0 : Nat → List Int → List Int → Int → Int → Option (List Int × Bool)
 | 0, _, _, _, _ => none
 | k + 1, x0, x10, x11, x12 => if x12 < x11 then (if 0 ≤ x12 then (if x12 < (x10.length : Int) then (if x12 ≤ (x0.length : Int) then ((slices_Contains_int_int.f k (x0.take (x12 : Int).toNat) (rd x10 x12)).bind fun t683 => (if t683 = true then (some (([] : List Int), false)) else (impl_ShapeOf.l0 k x0 x10 x11 (wrap64 (x12 + 1))))) else (none)) else (none)) else (none)) else ((impl_shape.f k x0).bind fun t684 => (some (t684, true)))
def impl_ShapeOf.f (k : Nat) (l0 : List Int) : Option (List Int × Bool) := (impl_isSize.f (l0.length : Int)).bind fun t677 => (if t677 = true then (impl_ShapeOf.l0 k l0 l0 (l0.length : Int) 0) else (some (([] : List Int), false)))
set_option maxHeartbeats 8000000 in
set_option maxRecDepth 100000 in
theorem impl_ShapeOf.calls (k : Nat) (A0 : Option Addr) (c0 : Nat) (l0 : List Int) (r1 : List Int) (r2 : Bool) (w : World) (hr0 : Kd.C (Kd.int .i64) w A0 l0.length l0) (hc0 : l0.length ≤ c0) (h : impl_ShapeOf.f k l0 = some (r1, r2)) :
 Calls Try.prog 126 #[.slice A0 l0.length c0] w fun e w' => ∃ v0_ : Value, e = .returned (.tuple #[v0_, .bool r2]) ∧ Kd.R (Kd.int .i64) 3 w' w.heap.size (fun _ => True) v0_ r1 ∧ Below w.heap.size w w' := by
 have HR0 := zk hr0
 have HC0 := zk hc0
 clear hr0 hc0
 have HB := zk (Below.refl w.heap.size w)
 have H := h
 unfold impl_ShapeOf.f at H
 clear h
 replace H := Option.bind_eq_some_iff.mp H
 obtain ⟨t677, A20, H⟩ := H
 try dsimp only at H
 have A2 := zk A20
 clear A20
 by_cases c3 : t677 = true
 rotate_left
 · replace c3 := Bool.eq_false_iff.mpr c3
   subst c3
   have H1 : (some (([] : List Int), false)) = some (r1, r2) := by rw [if_neg (show ¬ (false = true) by decide)] at H; exact H
   clear H
   have H := H1
   clear H1
   simp only [Option.some.injEq, Prod.mk.injEq] at H
   obtain ⟨rfl, rfl⟩ := H
   go_enter Try.func126, Try.ntmps126
   go_wp2_with (first | ((with_reducible refine gate_callee (f := 158) rfl ?_); refine zG (some 8) Try.func158 #[.int .i64 (l0.length : Int)] ?_; (with_reducible refine (impl_isSize.calls (l0.length : Int) false _ A2.out).mono ?_); rintro e w' ⟨rfl, ⟨nd, rfl⟩⟩; refine ⟨_, rfl, ?_⟩))
   go_ret2
   exact ⟨_, by first | rfl | (simp [errW_none, errW_some] <;> rfl) | (simp [*, errW_none, errW_some] <;> rfl), by first | exact Kd.R_nil _ _ _ _ _ | exact Kd.N_nil _ _ _ _ _ | exact Kd.V_nil _ _ _ _ _ | exact Kd.Q_nil _ _ _ _ _ | exact Kd.S_nil _ _ _ _ _, by repeat (first | exact HB.out | apply za | apply zd | apply ze)⟩
 subst c3
 have H1 : (impl_ShapeOf.l0 k l0 l0 (l0.length : Int) 0) = some (r1, r2) := by rw [if_pos rfl] at H; exact H
 clear H
 have H := H1
 clear H1
 have H' := zk H
 clear H
 go_enter Try.func126, Try.ntmps126
 go_wp2_with (first | ((with_reducible refine gate_callee (f := 158) rfl ?_); refine zG (some 8) Try.func158 #[.int .i64 (l0.length : Int)] ?_; (with_reducible refine (impl_isSize.calls (l0.length : Int) true _ A2.out).mono ?_); rintro e w' ⟨rfl, ⟨nd, rfl⟩⟩; refine ⟨_, rfl, ?_⟩))
 go_loopg [12] k (fun kq v12 w' => ∃ (x12_1 : Int), v12 = .int .i64 x12_1 ∧ Aside0 (impl_ShapeOf.l0 kq l0 l0 (l0.length : Int) x12_1 = some (r1, r2)) ∧ Aside0 (kq ≤ k) ∧ Aside0 (Below w.heap.size w w'))
 case atStart => exact ⟨(0), (by first | rfl | (simp; done) | (simp [*]; done)), H', ⟨Nat.le_refl _⟩, ⟨by repeat (first | exact HB.out | apply za | apply zd | apply ze)⟩⟩
 case round =>
  clear H'
  try clear c1
  try clear p2
  try clear c3
  obtain ⟨x12_1, rfl, HA, HK1, HB⟩ := hrel
  cases gk with
  | zero => exact absurd HA.out (by simp [impl_ShapeOf.l0])
  | succ k1 =>
   have H := HA.out
   clear HA
   simp only [impl_ShapeOf.l0] at H
   by_cases c4 : x12_1 < (l0.length : Int)
   rotate_left
   · rw [if_neg c4] at H
     have c4b0 := decide_eq_false c4
     clear c4
     replace H := Option.bind_eq_some_iff.mp H
     obtain ⟨t684, A130, H⟩ := H
     try dsimp only at H
     have A13 := zk A130
     clear A130
     simp only [Option.some.injEq, Prod.mk.injEq] at H
     obtain ⟨rfl, rfl⟩ := H
     go_wp2_with (first | ((with_reducible refine gate_callee (f := 161) rfl ?_); refine zG (some 24) Try.func161 #[.slice A0 l0.length c0] ?_; (with_reducible refine (impl_shape.calls k1 _ _ l0 t684 _ ?side1 ?side2 A13.out).mono ?_); (case side1 => exact zC (Kd.C_below HR0.out HB.out)); (case side2 => exact HC0.out); rintro e w14 ⟨v685, rfl, ho0, hb⟩; refine ⟨_, rfl, ?_⟩; have HO686 := zk (Kd.R_lower ho0 (below_size (zB HB))); replace HB := zF HB hb; (try clear hb ho0)))
     go_ret2
     exact ⟨_, by first | rfl | (simp [errW_none, errW_some] <;> rfl) | (simp [*, errW_none, errW_some] <;> rfl), by (with_reducible repeat (first | apply zs | apply zr | apply zt)); exact HO686.out, by repeat (first | exact HB.out | apply za | apply zd | apply ze)⟩
   rw [if_pos c4] at H
   have c4b0 := decide_eq_true c4
   clear c4
   by_cases c5 : 0 ≤ x12_1
   rotate_left
   · rw [if_neg c5] at H
     exact absurd H (by simp)
   rw [if_pos c5] at H
   have c5b0 := decide_eq_true c5
   clear c5
   by_cases c6 : x12_1 < (l0.length : Int)
   rotate_left
   · rw [if_neg c6] at H
     exact absurd H (by simp)
   rw [if_pos c6] at H
   have c6b0 := decide_eq_true c6
   clear c6
   have c7b0 := eq_true (zo (by assumption) : 0 ≤ x12_1)
   by_cases c8 : x12_1 ≤ (l0.length : Int)
   rotate_left
   · rw [if_neg c8] at H
     exact absurd H (by simp)
   rw [if_pos c8] at H
   have c8b0 := eq_true c8
   have c8b1 := decide_eq_true c8
   clear c8
   obtain ⟨y679, hy679⟩ : ∃ y_ : List Int, y_ = (l0.take (x12_1 : Int).toNat) := ⟨_, rfl⟩
   rw [← hy679] at H
   try rw [zO y679] at H
   try dsimp only at H
   have Ny679 := zk hy679
   clear hy679
   replace H := Option.bind_eq_some_iff.mp H
   obtain ⟨t683, A90, H⟩ := H
   try dsimp only at H
   have A9 := zk A90
   clear A90
   by_cases c10 : t683 = true
   rotate_left
   · replace c10 := Bool.eq_false_iff.mpr c10
     subst c10
     have H1 : (impl_ShapeOf.l0 k1 l0 l0 (l0.length : Int) (wrap64 (x12_1 + 1))) = some (r1, r2) := by rw [if_neg (show ¬ (false = true) by decide)] at H; exact H
     clear H
     have H := H1
     clear H1
     have H' := zk H
     clear H
     have p678 : 0 ≤ (x12_1 : Int) := zo (by assumption)
     have q678 : x12_1 < (l0.length : Int) := zo (by assumption)
     obtain ⟨ad678, e678, hx678_0⟩ := Kd.at_int HR0.out x12_1 p678 q678
     cases e678
     replace hx678_0 := (HB.out.cell (World.block_lt_of_cell? w _ hx678_0)).trans hx678_0
     replace p678 := eq_true p678
     replace q678 := eq_true q678
     have q12 : (x12_1 : Int) ≤ ((l0.length : Int) : Int) := zo (by assumption)
     obtain ⟨i012, hi012, _, hsz12, _⟩ := info_parts info3
     have hroom12 : l0.length ≤ c0 := HC0.out
     have hC12 : Kd.C (Kd.int .i64) _ (some ad678) l0.length l0 := HR0.out
     have hcut12 := cut_to (P := Try.prog) 22 3 .i64 Try.underlying22 hi012 (some ad678) l0.length c0 x12_1 (zo (by assumption)) q12 hroom12
     have hr12 := Kd.C_take (m := (x12_1 : Int).toNat) hC12 (by omega)
     have hy12 : y679.length = (x12_1 : Int).toNat := (by rw [Ny679.out, List.length_take]; omega)
     rw [← Ny679.out] at hr12
     rw [← hy12] at hcut12
     have HR682 := zk hr12
     have HC682 := zk (show y679.length ≤ c0 from by omega)
     clear hr12 hC12 hroom12 hi012 hsz12
     have KY12 := zk hy12
     clear hy12
     replace q12 := eq_true q12
     go_wp2_with (first | ((with_reducible refine gate_callee (f := 236) rfl ?_); refine zG (some 21) Try.func236 #[.slice (some ad678) y679.length c0, .int .i64 (rd l0 x12_1)] ?_; (with_reducible refine (slices_Contains_int_int.calls k1 _ _ y679 (rd l0 x12_1) false _ ?side1 ?side2 A9.out).mono ?_); (case side1 => exact zC (Kd.C_below HR682.out HB.out)); (case side2 => exact HC682.out); rintro e w' ⟨rfl, ⟨nd, rfl⟩⟩; refine ⟨_, rfl, ?_⟩))
     go_roundg k1
     case measure => have := HK1.out; omega
     case rel => exact ⟨(wrap64 (x12_1 + 1)), (by first | rfl | (simp; done) | (simp [*]; done)), H', ⟨by have := HK1.out; omega⟩, ⟨by repeat (first | exact HB.out | apply za | apply zd | apply ze)⟩⟩
   subst c10
   have H1 : (some (([] : List Int), false)) = some (r1, r2) := by rw [if_pos rfl] at H; exact H
   clear H
   have H := H1
   clear H1
   simp only [Option.some.injEq, Prod.mk.injEq] at H
   obtain ⟨rfl, rfl⟩ := H
   have p678 : 0 ≤ (x12_1 : Int) := zo (by assumption)
   have q678 : x12_1 < (l0.length : Int) := zo (by assumption)
   obtain ⟨ad678, e678, hx678_0⟩ := Kd.at_int HR0.out x12_1 p678 q678
   cases e678
   replace hx678_0 := (HB.out.cell (World.block_lt_of_cell? w _ hx678_0)).trans hx678_0
   replace p678 := eq_true p678
   replace q678 := eq_true q678
   have q11 : (x12_1 : Int) ≤ ((l0.length : Int) : Int) := zo (by assumption)
   obtain ⟨i011, hi011, _, hsz11, _⟩ := info_parts info3
   have hroom11 : l0.length ≤ c0 := HC0.out
   have hC11 : Kd.C (Kd.int .i64) _ (some ad678) l0.length l0 := HR0.out
   have hcut11 := cut_to (P := Try.prog) 22 3 .i64 Try.underlying22 hi011 (some ad678) l0.length c0 x12_1 (zo (by assumption)) q11 hroom11
   have hr11 := Kd.C_take (m := (x12_1 : Int).toNat) hC11 (by omega)
   have hy11 : y679.length = (x12_1 : Int).toNat := (by rw [Ny679.out, List.length_take]; omega)
   rw [← Ny679.out] at hr11
   rw [← hy11] at hcut11
   have HR682 := zk hr11
   have HC682 := zk (show y679.length ≤ c0 from by omega)
   clear hr11 hC11 hroom11 hi011 hsz11
   have KY11 := zk hy11
   clear hy11
   replace q11 := eq_true q11
   go_wp2_with (first | ((with_reducible refine gate_callee (f := 236) rfl ?_); refine zG (some 21) Try.func236 #[.slice (some ad678) y679.length c0, .int .i64 (rd l0 x12_1)] ?_; (with_reducible refine (slices_Contains_int_int.calls k1 _ _ y679 (rd l0 x12_1) true _ ?side1 ?side2 A9.out).mono ?_); (case side1 => exact zC (Kd.C_below HR682.out HB.out)); (case side2 => exact HC682.out); rintro e w' ⟨rfl, ⟨nd, rfl⟩⟩; refine ⟨_, rfl, ?_⟩))
   go_ret2
   exact ⟨_, by first | rfl | (simp [errW_none, errW_some] <;> rfl) | (simp [*, errW_none, errW_some] <;> rfl), by first | exact Kd.R_nil _ _ _ _ _ | exact Kd.N_nil _ _ _ _ _ | exact Kd.V_nil _ _ _ _ _ | exact Kd.Q_nil _ _ _ _ _ | exact Kd.S_nil _ _ _ _ _, by repeat (first | exact HB.out | apply za | apply zd | apply ze)⟩

/-! ### impl_CountPlaces: function 127 -/
def impl_CountPlaces.f (k : Nat) (l0 : List Int) (l1 : List Int) : Option (Int × Bool) := (impl_isOrder.f k l0).bind fun t687 => (if t687 = true then ((impl_isOrder.f k l1).bind fun t688 => (if t688 = true then ((impl_countPlaces.f l0 l1).bind fun t689 => (some (t689, true))) else (some (0, false)))) else (some (0, false)))
set_option maxHeartbeats 8000000 in
set_option maxRecDepth 100000 in
theorem impl_CountPlaces.calls (k : Nat) (A0 : Option Addr) (c0 : Nat) (l0 : List Int) (A1 : Option Addr) (c1 : Nat) (l1 : List Int) (r1 : Int) (r2 : Bool) (w : World) (hr0 : Kd.C (Kd.int .i64) w A0 l0.length l0) (hc0 : l0.length ≤ c0) (hr1 : Kd.C (Kd.int .i64) w A1 l1.length l1) (hc1 : l1.length ≤ c1) (h : impl_CountPlaces.f k l0 l1 = some (r1, r2)) :
 Calls Try.prog 127 #[.slice A0 l0.length c0, .slice A1 l1.length c1] w fun e w' => e = .returned (.tuple #[.int .i64 r1, .bool r2]) ∧ Below w.heap.size w w' := by
 have HR0 := zk hr0
 have HC0 := zk hc0
 clear hr0 hc0
 have HR1 := zk hr1
 have HC1 := zk hc1
 clear hr1 hc1
 have HB := zk (Below.refl w.heap.size w)
 have H := h
 unfold impl_CountPlaces.f at H
 clear h
 replace H := Option.bind_eq_some_iff.mp H
 obtain ⟨t687, A30, H⟩ := H
 try dsimp only at H
 have A3 := zk A30
 clear A30
 by_cases c4 : t687 = true
 rotate_left
 · replace c4 := Bool.eq_false_iff.mpr c4
   subst c4
   have H1 : (some (0, false)) = some (r1, r2) := by rw [if_neg (show ¬ (false = true) by decide)] at H; exact H
   clear H
   have H := H1
   clear H1
   simp only [Option.some.injEq, Prod.mk.injEq] at H
   obtain ⟨rfl, rfl⟩ := H
   go_enter Try.func127, Try.ntmps127
   go_wp2_with (first | ((with_reducible refine gate_callee (f := 146) rfl ?_); refine zG (some 7) Try.func146 #[.slice A0 l0.length c0] ?_; (with_reducible refine (impl_isOrder.calls k _ _ l0 false _ ?side1 ?side2 A3.out).mono ?_); (case side1 => exact zC HR0.out); (case side2 => exact HC0.out); rintro e w' ⟨rfl, ⟨nd, rfl⟩⟩; refine ⟨_, rfl, ?_⟩))
   go_ret2
   exact ⟨by first | rfl | (simp [errW_none, errW_some] <;> rfl) | (simp [*, errW_none, errW_some] <;> rfl), by repeat (first | exact HB.out | apply za | apply zd | apply ze)⟩
 subst c4
 have H1 : ((impl_isOrder.f k l1).bind fun t688 => (if t688 = true then ((impl_countPlaces.f l0 l1).bind fun t689 => (some (t689, true))) else (some (0, false)))) = some (r1, r2) := by rw [if_pos rfl] at H; exact H
 clear H
 have H := H1
 clear H1
 replace H := Option.bind_eq_some_iff.mp H
 obtain ⟨t688, A50, H⟩ := H
 try dsimp only at H
 have A5 := zk A50
 clear A50
 by_cases c6 : t688 = true
 rotate_left
 · replace c6 := Bool.eq_false_iff.mpr c6
   subst c6
   have H1 : (some (0, false)) = some (r1, r2) := by rw [if_neg (show ¬ (false = true) by decide)] at H; exact H
   clear H
   have H := H1
   clear H1
   simp only [Option.some.injEq, Prod.mk.injEq] at H
   obtain ⟨rfl, rfl⟩ := H
   go_enter Try.func127, Try.ntmps127
   go_wp2_with (first | ((with_reducible refine gate_callee (f := 146) rfl ?_); refine zG (some 7) Try.func146 #[.slice A0 l0.length c0] ?_; (with_reducible refine (impl_isOrder.calls k _ _ l0 true _ ?side1 ?side2 A3.out).mono ?_); (case side1 => exact zC HR0.out); (case side2 => exact HC0.out); rintro e w' ⟨rfl, ⟨nd, rfl⟩⟩; refine ⟨_, rfl, ?_⟩) | (go_at_call 146; (with_reducible refine (impl_isOrder.calls k _ _ l1 false _ ?side1 ?side2 A5.out).mono ?_); (case side1 => exact zC HR1.out); (case side2 => exact HC1.out); rintro e w' ⟨rfl, ⟨nd, rfl⟩⟩))
   go_ret2
   exact ⟨by first | rfl | (simp [errW_none, errW_some] <;> rfl) | (simp [*, errW_none, errW_some] <;> rfl), by repeat (first | exact HB.out | apply za | apply zd | apply ze)⟩
 subst c6
 have H1 : ((impl_countPlaces.f l0 l1).bind fun t689 => (some (t689, true))) = some (r1, r2) := by rw [if_pos rfl] at H; exact H
 clear H
 have H := H1
 clear H1
 replace H := Option.bind_eq_some_iff.mp H
 obtain ⟨t689, A70, H⟩ := H
 try dsimp only at H
 have A7 := zk A70
 clear A70
 simp only [Option.some.injEq, Prod.mk.injEq] at H
 obtain ⟨rfl, rfl⟩ := H
 go_enter Try.func127, Try.ntmps127
 go_wp2_with (first | ((with_reducible refine gate_callee (f := 146) rfl ?_); refine zG (some 7) Try.func146 #[.slice A0 l0.length c0] ?_; (with_reducible refine (impl_isOrder.calls k _ _ l0 true _ ?side1 ?side2 A3.out).mono ?_); (case side1 => exact zC HR0.out); (case side2 => exact HC0.out); rintro e w' ⟨rfl, ⟨nd, rfl⟩⟩; refine ⟨_, rfl, ?_⟩) | (go_at_call 146; (with_reducible refine (impl_isOrder.calls k _ _ l1 true _ ?side1 ?side2 A5.out).mono ?_); (case side1 => exact zC HR1.out); (case side2 => exact HC1.out); rintro e w' ⟨rfl, ⟨nd, rfl⟩⟩) | ((with_reducible refine gate_callee (f := 234) rfl ?_); refine zG (some 16) Try.func234 #[.slice A0 l0.length c0, .slice A1 l1.length c1] ?_; (with_reducible refine (impl_countPlaces.calls _ _ l0 _ _ l1 t689 _ ?side1 ?side2 ?side3 ?side4 A7.out).mono ?_); (case side1 => exact zC HR0.out); (case side2 => exact HC0.out); (case side3 => exact zC HR1.out); (case side4 => exact HC1.out); rintro e w8 ⟨rfl, hb⟩; refine ⟨_, rfl, ?_⟩; replace HB := zF HB hb; (try clear hb); (try clear hb2); (try clear hk); (try clear hi)))
 go_ret2
 exact ⟨by first | rfl | (simp [errW_none, errW_some] <;> rfl) | (simp [*, errW_none, errW_some] <;> rfl), by repeat (first | exact HB.out | apply za | apply zd | apply ze)⟩

end Go.Proofs.Ytlkddcabjcejdaa.MFnAvoiding
