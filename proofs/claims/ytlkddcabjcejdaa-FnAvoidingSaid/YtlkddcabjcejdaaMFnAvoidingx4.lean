/- Functions that FnAvoiding comes to, a walk for each: by wip/tools/mk.py and post.py. No condition. -/
import Derived.Test.YtlkddcabjcejdaaMFnAvoidingx0
import Derived.Test.YtlkddcabjcejdaaMFnAvoidingx3
namespace Go.Proofs.Ytlkddcabjcejdaa.MFnAvoiding
open Go.RowKit Go.Proofs.YtlkddcabjcejdaaW.PrintWords Go.Proofs.YtlkddcabjcejdaaW.PrintLast Go.Proofs.YtlkddcabjcejdaaW.PrintMore
attribute [local go_sem] max2_int min2_int max_two min_two max_three min_three max_four min_four
set_option linter.unusedVariables false
set_option linter.unusedSimpArgs false

/-! ### impl_allOrders: function 175 -/
def impl_allOrders.l0 : Nat → Int → List (List Int) → Int → Int → Option ((List (List Int)))
 | 0, _, _, _, _ => none
 | k + 1, x0, x3, x7, x8 => if x8 < x7 then ((impl_orderAt.f k x0 x8).bind fun t302 => (if x3.length < 5864062014805 then (impl_allOrders.l0 k x0 (x3 ++ [t302]) x7 (wrap64 (x8 + 1))) else (none))) else (some x3)
def impl_allOrders.f (k : Nat) (a0 : Int) : Option ((List (List Int))) := (impl_factorial.f k a0).bind fun t301 => (impl_allOrders.l0 k a0 (([] : List (List Int))) t301 0)
set_option maxHeartbeats 8000000 in
set_option maxRecDepth 100000 in
theorem impl_allOrders.calls (k : Nat) (a0 : Int) (r : List (List Int)) (w : World) (h : impl_allOrders.f k a0 = some r) :
 Calls Try.prog 175 #[.int .i64 a0] w fun e w' => ∃ v0_ : Value, e = .returned (v0_) ∧ Kd.S (Kd.slice 3 (Kd.int .i64)) 22 w' w.heap.size (fun _ => True) v0_ r ∧ Below w.heap.size w w' := by
 have HB := zk (Below.refl w.heap.size w)
 have H := h
 unfold impl_allOrders.f at H
 clear h
 obtain ⟨y298, hy298⟩ : ∃ y_ : List (List Int), y_ = (([] : List (List Int))) := ⟨_, rfl⟩
 replace H : ((impl_factorial.f k a0).bind fun t301 => (impl_allOrders.l0 k a0 y298 t301 0)) = some r := by first | (rw [hy298]; with_reducible exact H) | (have H2_ := (Option.bind_some _ _).symm.trans H; rw [hy298]; with_reducible exact H2_) | (have H2_ := (Option.bind_some _ _).symm.trans H; with_reducible exact H2_) | with_reducible exact H | (rw [hy298]; exact H) | exact H
 have Ny298 := zk hy298
 clear hy298
 replace H := Option.bind_eq_some_iff.mp H
 obtain ⟨t301, A20, H⟩ := H
 try dsimp only at H
 have A2 := zk A20
 clear A20
 have H' := zk H
 clear H
 go_enter Try.func175, Try.ntmps175
 go_wp2_with (first | ((with_reducible refine gate_dst (N := 5) rfl ?_); refine Kd.S_lit (Kd.slice 3 (Kd.int .i64)) _ 22 ?hg (N := 5) ?hd (xs := ([] : List (List Int))) (inner := []) (ok := fun _ => True) (okp := fun _ => True) ?hr ?hp (fun _ hk => hk) trivial (Below.refl _ _) (Nat.le_refl _) (by simp) ?_; (case hd => rfl); (case hg => rfl); (case hr => first | (go_simp; done) | (go_simp; rfl)); (case hp => exact (Reps.none _ _)); intro v299 w3 ho4 hb hg_ hnew_; clear hg_ hnew_; (first | rw [← Ny298.out] at ho4 | (simp only [Int.reduceToNat] at ho4; rw [← Ny298.out] at ho4)); have HO300 := zk (Kd.S_lower ho4 (below_size (zB HB))); replace HB := zF HB hb; clear hb ho4) | ((with_reducible refine gate_callee (f := 186) rfl ?_); refine zG (some 7) Try.func186 #[.int .i64 a0] ?_; (with_reducible refine (impl_factorial.calls k a0 t301 _ A2.out).mono ?_); rintro e w' ⟨rfl, ⟨nd, rfl⟩⟩; refine ⟨_, rfl, ?_⟩))
 go_loopg [3, 8] k (fun kq v3 v8 w' => ∃ (x3_1 : List (List Int)) (x8_1 : Int), v8 = .int .i64 x8_1 ∧ Aside0 (impl_allOrders.l0 kq a0 x3_1 t301 x8_1 = some r) ∧ Aside0 (kq ≤ k) ∧ Aside0 (Kd.S (Kd.slice 3 (Kd.int .i64)) 22 w' w.heap.size (fun _ => True) v3 x3_1) ∧ Aside0 (Below w.heap.size w w'))
 case atStart => exact ⟨(y298), (0), (by first | rfl | (simp; done) | (simp [*]; done)), H', ⟨Nat.le_refl _⟩, ⟨by (with_reducible repeat (first | apply Kd.S_alloc | apply Kd.S_drewN | apply Kd.S_drew)); exact HO300.out⟩, ⟨by repeat (first | exact HB.out | apply za | apply zd | apply ze)⟩⟩
 case round =>
  clear H'
  try clear c1
  try clear p2
  obtain ⟨x3_1, x8_1, rfl, HA, HK1, HO_3, HB⟩ := hrel
  cases gk with
  | zero => exact absurd HA.out (by simp [impl_allOrders.l0])
  | succ k1 =>
   have H := HA.out
   clear HA
   simp only [impl_allOrders.l0] at H
   by_cases c5 : x8_1 < t301
   rotate_left
   · rw [if_neg c5] at H
     have c5b0 := decide_eq_false c5
     clear c5
     obtain rfl := Option.some.inj H
     go_wp2
     go_ret
     exact ⟨_, by first | rfl | (simp [errW_none, errW_some] <;> rfl) | (simp [*, errW_none, errW_some] <;> rfl), by (with_reducible repeat (first | apply Kd.S_alloc | apply Kd.S_drewN | apply Kd.S_drew)); exact HO_3.out, by repeat (first | exact HB.out | apply za | apply zd | apply ze)⟩
   rw [if_pos c5] at H
   have c5b0 := decide_eq_true c5
   clear c5
   replace H := Option.bind_eq_some_iff.mp H
   obtain ⟨t302, A60, H⟩ := H
   try dsimp only at H
   have A6 := zk A60
   clear A60
   by_cases c7 : x3_1.length < 5864062014805
   rotate_left
   · rw [if_neg c7] at H
     exact absurd H (by simp)
   rw [if_pos c7] at H
   have LMc7 := zk c7
   clear c7
   obtain ⟨y305, hy305⟩ : ∃ y_ : List (List Int), y_ = (x3_1 ++ [t302]) := ⟨_, rfl⟩
   replace H : (impl_allOrders.l0 k1 a0 y305 t301 (wrap64 (x8_1 + 1))) = some r := by first | (rw [hy305]; with_reducible exact H) | (have H2_ := (Option.bind_some _ _).symm.trans H; rw [hy305]; with_reducible exact H2_) | (have H2_ := (Option.bind_some _ _).symm.trans H; with_reducible exact H2_) | with_reducible exact H | (rw [hy305]; exact H) | exact H
   have Ny305 := zk hy305
   clear hy305
   have H' := zk H
   clear H
   go_wp2_with (first | ((with_reducible refine gate_callee (f := 197) rfl ?_); refine zG (some 14) Try.func197 #[.int .i64 a0, .int .i64 x8_1] ?_; (with_reducible refine (impl_orderAt.calls k1 a0 x8_1 t302 _ A6.out).mono ?_); rintro e w8 ⟨v303, rfl, ho0, hb⟩; refine ⟨_, rfl, ?_⟩; have HO304 := zk (Kd.R_lower ho0 (below_size (zB HB))); replace HO_3 := zk (Kd.S_elder' (zS HO_3) (Kd.R_base ho0) hb); replace HB := zF HB hb; (try clear hb ho0); obtain ⟨Ao10, co10, eo10⟩ := Kd.R_slice HO304.out; subst eo10) | ((with_reducible refine gate_builtin (b := .append) (xs := #[.tmp 11, .tmp 15]) rfl ?_); at_builtin; refine Kd.S_append (Kd.slice 3 (Kd.int .i64)) (w0 := w) w.heap.size rfl (.tmp 11) (.tmp 15) 28 22 (.slice none 0 0) 24 rfl Try.underlying28 info22 rfl (by decide) (by omega) u3 x3_1 t302 [.slice Ao10 t302.length co10] (fun _ => True) (fun k_ => some k_ = (.slice Ao10 t302.length co10 : Value).ownBlock) rfl rfl ?aP (fun k_ hk_ => ((Kd.R_mono (ok' := fun k_ => ((fun _ => True)) k_ ∧ some k_ ≠ (u3 : Value).ownBlock) (Kd.R_apart' (HO304.out) (Kd.S_typed HO_3.out) (by decide)) (fun k_ hk => ⟨trivial, hk.2⟩))).1 k_ hk_.symm) ?aF ?aO ?aB ?aS ?aL ?_; (case aP => exact Kd.M_row (Kd.R_mono (Kd.R_tight rfl (Kd.R_mono (ok' := fun k_ => ((fun _ => True)) k_ ∧ some k_ ≠ (u3 : Value).ownBlock) (Kd.R_apart' (HO304.out) (Kd.S_typed HO_3.out) (by decide)) (fun k_ hk => ⟨trivial, hk.2⟩))) (fun _ h_ => h_))); (case aB => exact (zB HB)); (case aF => exact (fun _ _ => trivial)); (case aO => exact (by (with_reducible repeat (first | apply Kd.S_alloc | apply Kd.S_drewN | apply Kd.S_drew)); exact Kd.S_mono HO_3.out (fun k_ hk => ⟨trivial, fun e_ => hk.2 e_⟩))); (case aS => exact (below_size (zB HB))); (case aL => have := LMc7.out; omega); intro v306 w9 ho hb hg hat; rw [← Ny305.out] at ho; have HO307 := zk (ho); replace HB := zk (hb); clear HO_3 HO304; clear ho hb hg hat))
   go_roundg k1
   case measure => have := HK1.out; omega
   case rel => exact ⟨(y305), (wrap64 (x8_1 + 1)), (by first | rfl | (simp; done) | (simp [*]; done)), H', ⟨by have := HK1.out; omega⟩, ⟨by (with_reducible repeat (first | apply Kd.S_alloc | apply Kd.S_drewN | apply Kd.S_drew)); exact HO307.out⟩, ⟨by repeat (first | exact HB.out | apply za | apply zd | apply ze)⟩⟩

/-! ### impl_shape: function 161 -/
mutual
def impl_shape.l0 : Nat → List Int → List Int → List Int → Int → Int → Option (List Int)
 | 0, _, _, _, _, _ => none
 | k + 1, x0, x3, x10, x11, x12 => if x12 < x11 then (if 0 ≤ x12 then (if x12 < (x10.length : Int) then (impl_shape.l1 k x0 x3 (rd x10 x12) 1 x10 x11 x12 x0 (x0.length : Int) 0) else (none)) else (none)) else (some x3)
def impl_shape.l1 : Nat → List Int → List Int → Int → Int → List Int → Int → Int → List Int → Int → Int → Option (List Int)
 | 0, _, _, _, _, _, _, _, _, _, _ => none
 | k + 1, x0, x3, x5, x6, x10, x11, x12, x16, x17, x18 => if x18 < x17 then (if 0 ≤ x18 then (if x18 < (x16.length : Int) then (if (rd x16 x18) < x5 then (impl_shape.l1 k x0 x3 x5 (wrap64 (x6 + 1)) x10 x11 x12 x16 x17 (wrap64 (x18 + 1))) else (impl_shape.l1 k x0 x3 x5 x6 x10 x11 x12 x16 x17 (wrap64 (x18 + 1)))) else (none)) else (none)) else (if x3.length < 17592186044416 then (impl_shape.l0 k x0 (x3 ++ [x6]) x10 x11 (wrap64 (x12 + 1))) else (none))
end
def impl_shape.f (k : Nat) (l0 : List Int) : Option (List Int) := impl_shape.l0 k l0 (([] : List Int)) l0 (l0.length : Int) 0
set_option maxHeartbeats 8000000 in
set_option maxRecDepth 100000 in
theorem impl_shape.calls (k : Nat) (A0 : Option Addr) (c0 : Nat) (l0 : List Int) (r : List Int) (w : World) (hr0 : Kd.C (Kd.int .i64) w A0 l0.length l0) (hc0 : l0.length ≤ c0) (h : impl_shape.f k l0 = some r) :
 Calls Try.prog 161 #[.slice A0 l0.length c0] w fun e w' => ∃ v0_ : Value, e = .returned (v0_) ∧ Kd.R (Kd.int .i64) 3 w' w.heap.size (fun _ => True) v0_ r ∧ Below w.heap.size w w' := by
 have HR0 := zk hr0
 have HC0 := zk hc0
 clear hr0 hc0
 have HB := zk (Below.refl w.heap.size w)
 have H : (impl_shape.l0 k l0 (([] : List Int)) l0 (l0.length : Int) 0) = some r := h
 clear h
 obtain ⟨y308, hy308⟩ : ∃ y_ : List Int, y_ = (([] : List Int)) := ⟨_, rfl⟩
 replace H : (impl_shape.l0 k l0 y308 l0 (l0.length : Int) 0) = some r := by first | (rw [hy308]; with_reducible exact H) | (have H2_ := (Option.bind_some _ _).symm.trans H; rw [hy308]; with_reducible exact H2_) | (have H2_ := (Option.bind_some _ _).symm.trans H; with_reducible exact H2_) | with_reducible exact H | (rw [hy308]; exact H) | exact H
 have Ny308 := zk hy308
 clear hy308
 have H' := zk H
 clear H
 go_enter Try.func161, Try.ntmps161
 go_wp2_with (first | ((with_reducible refine gate_dst (N := 9) rfl ?_); refine zL 9 3 [] (Below.refl _ _) (Nat.le_refl _) ?_; intro v309 w2 ho3 hb hg_ hnew_; clear hg_ hnew_; (first | rw [← Ny308.out] at ho3 | (simp only [Int.reduceToNat] at ho3; rw [← Ny308.out] at ho3)); have HO310 := zk (Kd.R_lower ho3 (below_size (zB HB))); replace HB := zF HB hb; clear hb ho3))
 go_loopg [3, 12] k (fun kq v3 v12 w' => ∃ (x3_1 : List Int) (x12_1 : Int), v12 = .int .i64 x12_1 ∧ Aside0 (impl_shape.l0 kq l0 x3_1 l0 (l0.length : Int) x12_1 = some r) ∧ Aside0 (kq ≤ k) ∧ Aside0 (Kd.R (Kd.int .i64) 3 w' w.heap.size (fun _ => True) v3 x3_1) ∧ Aside0 (Below w.heap.size w w'))
 case atStart => exact ⟨(y308), (0), (by first | rfl | (simp; done) | (simp [*]; done)), H', ⟨Nat.le_refl _⟩, ⟨by (with_reducible repeat (first | apply zs | apply zr | apply zt)); exact HO310.out⟩, ⟨by repeat (first | exact HB.out | apply za | apply zd | apply ze)⟩⟩
 case round =>
  clear H'
  try clear c1
  try clear p2
  obtain ⟨x3_1, x12_1, rfl, HA, HK1, HO_3, HB⟩ := hrel
  cases gk with
  | zero => exact absurd HA.out (by simp [impl_shape.l0])
  | succ k1 =>
   have H := HA.out
   clear HA
   simp only [impl_shape.l0] at H
   by_cases c4 : x12_1 < (l0.length : Int)
   rotate_left
   · rw [if_neg c4] at H
     have c4b0 := decide_eq_false c4
     clear c4
     obtain rfl := Option.some.inj H
     go_wp2
     go_ret
     exact ⟨_, by first | rfl | (simp [errW_none, errW_some] <;> rfl) | (simp [*, errW_none, errW_some] <;> rfl), by (with_reducible repeat (first | apply zs | apply zr | apply zt)); exact HO_3.out, by repeat (first | exact HB.out | apply za | apply zd | apply ze)⟩
   rw [if_pos c4] at H
   have c4b0 := decide_eq_true c4
   clear c4
   by_cases c5 : 0 ≤ x12_1
   rotate_left
   · rw [if_neg c5] at H
     exact absurd H (by simp)
   rw [if_pos c5] at H
   have c5b0 := decide_eq_true c5
   clear c5
   by_cases c6 : x12_1 < (l0.length : Int)
   rotate_left
   · rw [if_neg c6] at H
     exact absurd H (by simp)
   rw [if_pos c6] at H
   have c6b0 := decide_eq_true c6
   clear c6
   have H' := zk H
   clear H
   have p311 : 0 ≤ (x12_1 : Int) := zo (by assumption)
   have q311 : x12_1 < (l0.length : Int) := zo (by assumption)
   obtain ⟨ad311, e311, hx311_0⟩ := Kd.at_int HR0.out x12_1 p311 q311
   cases e311
   replace hx311_0 := (HB.out.cell (World.block_lt_of_cell? w _ hx311_0)).trans hx311_0
   replace p311 := eq_true p311
   replace q311 := eq_true q311
   go_wp2
   go_loopg [6, 18] k1 (fun kq v6 v18 w' => ∃ (x6_2 : Int) (x18_2 : Int), v6 = .int .i64 x6_2 ∧ v18 = .int .i64 x18_2 ∧ Aside0 (impl_shape.l1 kq l0 x3_1 (rd l0 x12_1) x6_2 l0 (l0.length : Int) x12_1 l0 (l0.length : Int) x18_2 = some r) ∧ Aside0 (kq ≤ k1) ∧ Aside0 (Kd.R (Kd.int .i64) 3 w' w.heap.size (fun _ => True) u3 x3_1) ∧ Aside0 (Below w.heap.size w w'))
   case atStart => exact ⟨(1), (0), (by first | rfl | (simp; done) | (simp [*]; done)), (by first | rfl | (simp; done) | (simp [*]; done)), H', ⟨Nat.le_refl _⟩, ⟨by (with_reducible repeat (first | apply zs | apply zr | apply zt)); exact HO_3.out⟩, ⟨by repeat (first | exact HB.out | apply za | apply zd | apply ze)⟩⟩
   case round =>
    clear H'
    try clear c1
    try clear p2
    try clear p3
    try clear q3
    try clear hx3
    try clear c4
    try clear c4b0
    try clear c5
    try clear c5b0
    try clear c6
    try clear c6b0
    try clear hx311_0
    try clear p2
    try clear p311
    try clear q311
    obtain ⟨x6_2, x18_2, rfl, rfl, HA, HK2, HO_3, HB⟩ := hrel
    cases gk with
    | zero => exact absurd HA.out (by simp [impl_shape.l1])
    | succ k2 =>
     have H := HA.out
     clear HA
     simp only [impl_shape.l1] at H
     by_cases c7 : x18_2 < (l0.length : Int)
     rotate_left
     · rw [if_neg c7] at H
       have c7b0 := decide_eq_false c7
       clear c7
       by_cases c11 : x3_1.length < 17592186044416
       rotate_left
       · rw [if_neg c11] at H
         exact absurd H (by simp)
       rw [if_pos c11] at H
       have LMc11 := zk c11
       clear c11
       obtain ⟨y313, hy313⟩ : ∃ y_ : List Int, y_ = (x3_1 ++ [x6_2]) := ⟨_, rfl⟩
       replace H : (impl_shape.l0 k2 l0 y313 l0 (l0.length : Int) (wrap64 (x12_1 + 1))) = some r := by first | (rw [hy313]; with_reducible exact H) | (have H2_ := (Option.bind_some _ _).symm.trans H; rw [hy313]; with_reducible exact H2_) | (have H2_ := (Option.bind_some _ _).symm.trans H; with_reducible exact H2_) | with_reducible exact H | (rw [hy313]; exact H) | exact H
       have Ny313 := zk hy313
       clear hy313
       have H' := zk H
       clear H
       go_wp2_with (first | ((with_reducible refine gate_builtin (b := .append) (xs := #[.tmp 28, .tmp 30]) rfl ?_); at_builtin; refine Kd.R_append (Kd.int .i64) (w0 := w) w.heap.size rfl (.tmp 28) (.tmp 30) 22 3 (.int .i64 0) 8 rfl Try.underlying22 info3 rfl (by decide) (by omega) u3 x3_1 x6_2 [.int .i64 x6_2] (fun _ => True) (fun _ => False) rfl rfl ?aP (fun _ hk => hk.elim) ?aF ?aO ?aB ?aS ?aL ?_; (case aP => exact rfl); (case aB => exact (zB HB)); (case aF => exact (fun _ _ => trivial)); (case aO => exact (zR HO_3)); (case aS => exact (below_size (zB HB))); (case aL => have := LMc11.out; omega); intro v314 w12 ho hb hg hat; rw [← Ny313.out] at ho; have HO315 := zk (ho); replace HB := zk (hb); clear HO_3; clear ho hb hg hat))
       go_roundg k2
       case measure => have := HK1.out; have := HK2.out; omega
       case rel => exact ⟨(y313), (wrap64 (x12_1 + 1)), (by first | rfl | (simp; done) | (simp [*]; done)), H', ⟨by have := HK1.out; have := HK2.out; omega⟩, ⟨by (with_reducible repeat (first | apply zs | apply zr | apply zt)); exact HO315.out⟩, ⟨by repeat (first | exact HB.out | apply za | apply zd | apply ze)⟩⟩
     rw [if_pos c7] at H
     have c7b0 := decide_eq_true c7
     clear c7
     by_cases c8 : 0 ≤ x18_2
     rotate_left
     · rw [if_neg c8] at H
       exact absurd H (by simp)
     rw [if_pos c8] at H
     have c8b0 := decide_eq_true c8
     clear c8
     by_cases c9 : x18_2 < (l0.length : Int)
     rotate_left
     · rw [if_neg c9] at H
       exact absurd H (by simp)
     rw [if_pos c9] at H
     have c9b0 := decide_eq_true c9
     clear c9
     by_cases c10 : (rd l0 x18_2) < (rd l0 x12_1)
     rotate_left
     · rw [if_neg c10] at H
       have c10b0 := decide_eq_false c10
       clear c10
       have H' := zk H
       clear H
       have p312 : 0 ≤ (x18_2 : Int) := zo (by assumption)
       have q312 : x18_2 < (l0.length : Int) := zo (by assumption)
       obtain ⟨ad312, e312, hx312_0⟩ := Kd.at_int HR0.out x18_2 p312 q312
       obtain rfl : ad311 = ad312 := (by injection e312)
       replace hx312_0 := (HB.out.cell (World.block_lt_of_cell? w _ hx312_0)).trans hx312_0
       replace p312 := eq_true p312
       replace q312 := eq_true q312
       go_wp2
       go_roundg k2
       case measure => have := HK1.out; have := HK2.out; omega
       case rel => exact ⟨(x6_2), (wrap64 (x18_2 + 1)), (by first | rfl | (simp; done) | (simp [*]; done)), (by first | rfl | (simp; done) | (simp [*]; done)), H', ⟨by have := HK1.out; have := HK2.out; omega⟩, ⟨by (with_reducible repeat (first | apply zs | apply zr | apply zt)); exact HO_3.out⟩, ⟨by repeat (first | exact HB.out | apply za | apply zd | apply ze)⟩⟩
     rw [if_pos c10] at H
     have c10b0 := decide_eq_true c10
     clear c10
     have H' := zk H
     clear H
     have p312 : 0 ≤ (x18_2 : Int) := zo (by assumption)
     have q312 : x18_2 < (l0.length : Int) := zo (by assumption)
     obtain ⟨ad312, e312, hx312_0⟩ := Kd.at_int HR0.out x18_2 p312 q312
     obtain rfl : ad311 = ad312 := (by injection e312)
     replace hx312_0 := (HB.out.cell (World.block_lt_of_cell? w _ hx312_0)).trans hx312_0
     replace p312 := eq_true p312
     replace q312 := eq_true q312
     go_wp2
     go_roundg k2
     case measure => have := HK1.out; have := HK2.out; omega
     case rel => exact ⟨(wrap64 (x6_2 + 1)), (wrap64 (x18_2 + 1)), (by first | rfl | (simp; done) | (simp [*]; done)), (by first | rfl | (simp; done) | (simp [*]; done)), H', ⟨by have := HK1.out; have := HK2.out; omega⟩, ⟨by (with_reducible repeat (first | apply zs | apply zr | apply zt)); exact HO_3.out⟩, ⟨by repeat (first | exact HB.out | apply za | apply zd | apply ze)⟩⟩

/-! ### impl_at: function 162 -/
def impl_at.l0 : Nat → List Int → List Int → List Int → Int → Int → Option (List Int)
 | 0, _, _, _, _, _ => none
 | k + 1, x0, x5, x9, x10, x11 => if x11 < x10 then (if 0 ≤ x11 then (if x11 < (x9.length : Int) then (if 0 ≤ (rd x9 x11) then (if (rd x9 x11) < (x0.length : Int) then (if x5.length < 17592186044416 then (impl_at.l0 k x0 (x5 ++ [rd x0 (rd x9 x11)]) x9 x10 (wrap64 (x11 + 1))) else (none)) else (none)) else (none)) else (none)) else (none)) else (some x5)
def impl_at.f (k : Nat) (l0 : List Int) (l1 : List Int) : Option (List Int) := impl_at.l0 k l0 (([] : List Int)) l1 (l1.length : Int) 0
set_option maxHeartbeats 8000000 in
set_option maxRecDepth 100000 in
theorem impl_at.calls (k : Nat) (A0 : Option Addr) (c0 : Nat) (l0 : List Int) (A1 : Option Addr) (c1 : Nat) (l1 : List Int) (r : List Int) (w : World) (hr0 : Kd.C (Kd.int .i64) w A0 l0.length l0) (hc0 : l0.length ≤ c0) (hr1 : Kd.C (Kd.int .i64) w A1 l1.length l1) (hc1 : l1.length ≤ c1) (h : impl_at.f k l0 l1 = some r) :
 Calls Try.prog 162 #[.slice A0 l0.length c0, .slice A1 l1.length c1] w fun e w' => ∃ v0_ : Value, e = .returned (v0_) ∧ Kd.R (Kd.int .i64) 3 w' w.heap.size (fun _ => True) v0_ r ∧ Below w.heap.size w w' := by
 have HR0 := zk hr0
 have HC0 := zk hc0
 clear hr0 hc0
 have HR1 := zk hr1
 have HC1 := zk hc1
 clear hr1 hc1
 have HB := zk (Below.refl w.heap.size w)
 have H : (impl_at.l0 k l0 (([] : List Int)) l1 (l1.length : Int) 0) = some r := h
 clear h
 obtain ⟨y316, hy316⟩ : ∃ y_ : List Int, y_ = (([] : List Int)) := ⟨_, rfl⟩
 replace H : (impl_at.l0 k l0 y316 l1 (l1.length : Int) 0) = some r := by first | (rw [hy316]; with_reducible exact H) | (have H2_ := (Option.bind_some _ _).symm.trans H; rw [hy316]; with_reducible exact H2_) | (have H2_ := (Option.bind_some _ _).symm.trans H; with_reducible exact H2_) | with_reducible exact H | (rw [hy316]; exact H) | exact H
 have Ny316 := zk hy316
 clear hy316
 have H' := zk H
 clear H
 go_enter Try.func162, Try.ntmps162
 go_wp2_with (first | ((with_reducible refine gate_dst (N := 8) rfl ?_); refine zL 8 3 [] (Below.refl _ _) (Nat.le_refl _) ?_; intro v317 w3 ho4 hb hg_ hnew_; clear hg_ hnew_; (first | rw [← Ny316.out] at ho4 | (simp only [Int.reduceToNat] at ho4; rw [← Ny316.out] at ho4)); have HO318 := zk (Kd.R_lower ho4 (below_size (zB HB))); replace HB := zF HB hb; clear hb ho4))
 go_loopg [5, 11] k (fun kq v5 v11 w' => ∃ (x5_1 : List Int) (x11_1 : Int), v11 = .int .i64 x11_1 ∧ Aside0 (impl_at.l0 kq l0 x5_1 l1 (l1.length : Int) x11_1 = some r) ∧ Aside0 (kq ≤ k) ∧ Aside0 (Kd.R (Kd.int .i64) 3 w' w.heap.size (fun _ => True) v5 x5_1) ∧ Aside0 (Below w.heap.size w w'))
 case atStart => exact ⟨(y316), (0), (by first | rfl | (simp; done) | (simp [*]; done)), H', ⟨Nat.le_refl _⟩, ⟨by (with_reducible repeat (first | apply zs | apply zr | apply zt)); exact HO318.out⟩, ⟨by repeat (first | exact HB.out | apply za | apply zd | apply ze)⟩⟩
 case round =>
  clear H'
  try clear c1
  try clear p2
  obtain ⟨x5_1, x11_1, rfl, HA, HK1, HO_5, HB⟩ := hrel
  cases gk with
  | zero => exact absurd HA.out (by simp [impl_at.l0])
  | succ k1 =>
   have H := HA.out
   clear HA
   simp only [impl_at.l0] at H
   by_cases c5 : x11_1 < (l1.length : Int)
   rotate_left
   · rw [if_neg c5] at H
     have c5b0 := decide_eq_false c5
     clear c5
     obtain rfl := Option.some.inj H
     go_wp2
     go_ret
     exact ⟨_, by first | rfl | (simp [errW_none, errW_some] <;> rfl) | (simp [*, errW_none, errW_some] <;> rfl), by (with_reducible repeat (first | apply zs | apply zr | apply zt)); exact HO_5.out, by repeat (first | exact HB.out | apply za | apply zd | apply ze)⟩
   rw [if_pos c5] at H
   have c5b0 := decide_eq_true c5
   clear c5
   by_cases c6 : 0 ≤ x11_1
   rotate_left
   · rw [if_neg c6] at H
     exact absurd H (by simp)
   rw [if_pos c6] at H
   have c6b0 := decide_eq_true c6
   clear c6
   by_cases c7 : x11_1 < (l1.length : Int)
   rotate_left
   · rw [if_neg c7] at H
     exact absurd H (by simp)
   rw [if_pos c7] at H
   have c7b0 := decide_eq_true c7
   clear c7
   by_cases c8 : 0 ≤ (rd l1 x11_1)
   rotate_left
   · rw [if_neg c8] at H
     exact absurd H (by simp)
   rw [if_pos c8] at H
   have c8b0 := decide_eq_true c8
   clear c8
   by_cases c9 : (rd l1 x11_1) < (l0.length : Int)
   rotate_left
   · rw [if_neg c9] at H
     exact absurd H (by simp)
   rw [if_pos c9] at H
   have c9b0 := decide_eq_true c9
   clear c9
   by_cases c10 : x5_1.length < 17592186044416
   rotate_left
   · rw [if_neg c10] at H
     exact absurd H (by simp)
   rw [if_pos c10] at H
   have LMc10 := zk c10
   clear c10
   obtain ⟨y321, hy321⟩ : ∃ y_ : List Int, y_ = (x5_1 ++ [rd l0 (rd l1 x11_1)]) := ⟨_, rfl⟩
   replace H : (impl_at.l0 k1 l0 y321 l1 (l1.length : Int) (wrap64 (x11_1 + 1))) = some r := by first | (rw [hy321]; with_reducible exact H) | (have H2_ := (Option.bind_some _ _).symm.trans H; rw [hy321]; with_reducible exact H2_) | (have H2_ := (Option.bind_some _ _).symm.trans H; with_reducible exact H2_) | with_reducible exact H | (rw [hy321]; exact H) | exact H
   have Ny321 := zk hy321
   clear hy321
   have H' := zk H
   clear H
   have p319 : 0 ≤ (x11_1 : Int) := zo (by assumption)
   have q319 : x11_1 < (l1.length : Int) := zo (by assumption)
   obtain ⟨ad319, e319, hx319_0⟩ := Kd.at_int HR1.out x11_1 p319 q319
   cases e319
   replace hx319_0 := (HB.out.cell (World.block_lt_of_cell? w _ hx319_0)).trans hx319_0
   replace p319 := eq_true p319
   replace q319 := eq_true q319
   have p320 : 0 ≤ ((rd l1 x11_1) : Int) := zo (by assumption)
   have q320 : (rd l1 x11_1) < (l0.length : Int) := zo (by assumption)
   obtain ⟨ad320, e320, hx320_0⟩ := Kd.at_int HR0.out (rd l1 x11_1) p320 q320
   cases e320
   replace hx320_0 := (HB.out.cell (World.block_lt_of_cell? w _ hx320_0)).trans hx320_0
   replace p320 := eq_true p320
   replace q320 := eq_true q320
   go_wp2_with (first | ((with_reducible refine gate_builtin (b := .append) (xs := #[.tmp 15, .tmp 20]) rfl ?_); at_builtin; refine Kd.R_append (Kd.int .i64) (w0 := w) w.heap.size rfl (.tmp 15) (.tmp 20) 22 3 (.int .i64 0) 8 rfl Try.underlying22 info3 rfl (by decide) (by omega) u5 x5_1 (rd l0 (rd l1 x11_1)) [.int .i64 (rd l0 (rd l1 x11_1))] (fun _ => True) (fun _ => False) rfl rfl ?aP (fun _ hk => hk.elim) ?aF ?aO ?aB ?aS ?aL ?_; (case aP => exact rfl); (case aB => exact (zB HB)); (case aF => exact (fun _ _ => trivial)); (case aO => exact (zR HO_5)); (case aS => exact (below_size (zB HB))); (case aL => have := LMc10.out; omega); intro v322 w11 ho hb hg hat; rw [← Ny321.out] at ho; have HO323 := zk (ho); replace HB := zk (hb); clear HO_5; clear ho hb hg hat))
   go_roundg k1
   case measure => have := HK1.out; omega
   case rel => exact ⟨(y321), (wrap64 (x11_1 + 1)), (by first | rfl | (simp; done) | (simp [*]; done)), H', ⟨by have := HK1.out; omega⟩, ⟨by (with_reducible repeat (first | apply zs | apply zr | apply zt)); exact HO323.out⟩, ⟨by repeat (first | exact HB.out | apply za | apply zd | apply ze)⟩⟩

/-! ### slices_Equal_int_int: function 177 -/
def slices_Equal_int_int.l0 : Nat → List Int → List Int → Int → Int → Option (Bool)
 | 0, _, _, _, _ => none
 | k + 1, x0, x1, x12, x13 => if x13 < x12 then (if 0 ≤ x13 then (if x13 < (x0.length : Int) then (if x13 < (x1.length : Int) then (if (rd x0 x13) = (rd x1 x13) then (slices_Equal_int_int.l0 k x0 x1 x12 (wrap64 (x13 + 1))) else (some false)) else (none)) else (none)) else (none)) else (some true)
def slices_Equal_int_int.f (k : Nat) (l0 : List Int) (l1 : List Int) : Option (Bool) := if (l0.length : Int) = (l1.length : Int) then (slices_Equal_int_int.l0 k l0 l1 (l0.length : Int) 0) else (some false)
set_option maxHeartbeats 8000000 in
set_option maxRecDepth 100000 in
theorem slices_Equal_int_int.calls (k : Nat) (A0 : Option Addr) (c0 : Nat) (l0 : List Int) (A1 : Option Addr) (c1 : Nat) (l1 : List Int) (r : Bool) (w : World) (hr0 : Kd.C (Kd.int .i64) w A0 l0.length l0) (hc0 : l0.length ≤ c0) (hr1 : Kd.C (Kd.int .i64) w A1 l1.length l1) (hc1 : l1.length ≤ c1) (h : slices_Equal_int_int.f k l0 l1 = some r) :
 Calls Try.prog 177 #[.slice A0 l0.length c0, .slice A1 l1.length c1] w fun e w' => e = .returned (.bool r) ∧ Drawn0 w w' := by
 have HR0 := zk hr0
 have HC0 := zk hc0
 clear hr0 hc0
 have HR1 := zk hr1
 have HC1 := zk hc1
 clear hr1 hc1
 have H := h
 unfold slices_Equal_int_int.f at H
 clear h
 by_cases c3 : (l0.length : Int) = (l1.length : Int)
 rotate_left
 · rw [if_neg c3] at H
   have c3b0 : ((l0.length : Int) == (l1.length : Int)) = false := beq_eq_false_iff_ne.mpr c3
   have c3b1 : ((l0.length : Int) != (l1.length : Int)) = true := bne_iff_ne.mpr c3
   have c3b2 : (l0.length == l1.length) = false := by first | simpa using c3 | (simp at c3 ⊢; omega)
   obtain rfl := Option.some.inj H
   go_enter Try.func177, Try.ntmps177
   go_wp2
   repeat (go_quiet (fail); try go_wp2)
   go_ret
   exact ⟨zX, zD⟩
 rw [if_pos c3] at H
 have c3b0 : ((l0.length : Int) == (l1.length : Int)) = true := beq_iff_eq.mpr c3
 have c3b1 : ((l0.length : Int) != (l1.length : Int)) = false := bne_eq_false_iff_eq.mpr c3
 have c3b2 : (l0.length == l1.length) = true := by first | simpa using c3 | (simp at c3 ⊢; omega)
 clear c3
 have H' := zk H
 clear H
 go_enter Try.func177, Try.ntmps177
 go_wp2
 repeat (go_quiet (fail); try go_wp2)
 go_loopg [13] k (fun kq v13 w' => ∃ (x13_1 : Int), v13 = .int .i64 x13_1 ∧ Aside0 (slices_Equal_int_int.l0 kq l0 l1 (l0.length : Int) x13_1 = some r) ∧ Aside0 (kq ≤ k) ∧ Drawn0 w w')
 case atStart => exact ⟨(0), (by first | rfl | (simp; done) | (simp [*]; done)), H', ⟨Nat.le_refl _⟩, zD⟩
 case round =>
  clear H'
  try clear c1
  try clear p2
  try clear c3
  try clear c3b0
  try clear c3b1
  try clear c3b2
  obtain ⟨x13_1, rfl, HA, HK1, ⟨m1, rfl⟩⟩ := hrel
  cases gk with
  | zero => exact absurd HA.out (by simp [slices_Equal_int_int.l0])
  | succ k1 =>
   have H := HA.out
   clear HA
   simp only [slices_Equal_int_int.l0] at H
   by_cases c4 : x13_1 < (l0.length : Int)
   rotate_left
   · rw [if_neg c4] at H
     have c4b0 := decide_eq_false c4
     clear c4
     obtain rfl := Option.some.inj H
     go_wp2
     repeat (go_quiet (fail); try go_wp2)
     go_ret
     exact ⟨zX, zD⟩
   rw [if_pos c4] at H
   have c4b0 := decide_eq_true c4
   clear c4
   by_cases c5 : 0 ≤ x13_1
   rotate_left
   · rw [if_neg c5] at H
     exact absurd H (by simp)
   rw [if_pos c5] at H
   have c5b0 := decide_eq_true c5
   clear c5
   by_cases c6 : x13_1 < (l0.length : Int)
   rotate_left
   · rw [if_neg c6] at H
     exact absurd H (by simp)
   rw [if_pos c6] at H
   have c6b0 := decide_eq_true c6
   clear c6
   by_cases c7 : x13_1 < (l1.length : Int)
   rotate_left
   · rw [if_neg c7] at H
     exact absurd H (by simp)
   rw [if_pos c7] at H
   have c7b0 := decide_eq_true c7
   clear c7
   by_cases c8 : (rd l0 x13_1) = (rd l1 x13_1)
   rotate_left
   · rw [if_neg c8] at H
     have c8b0 : ((rd l0 x13_1) == (rd l1 x13_1)) = false := beq_eq_false_iff_ne.mpr c8
     have c8b1 : ((rd l0 x13_1) != (rd l1 x13_1)) = true := bne_iff_ne.mpr c8
     obtain rfl := Option.some.inj H
     have p324 : 0 ≤ (x13_1 : Int) := zo (by assumption)
     have q324 : x13_1 < (l0.length : Int) := zo (by assumption)
     obtain ⟨ad324, e324, hx324_0⟩ := Kd.at_int HR0.out x13_1 p324 q324
     cases e324
     replace p324 := eq_true p324
     replace q324 := eq_true q324
     have p325 : 0 ≤ (x13_1 : Int) := zo (by assumption)
     have q325 : x13_1 < (l1.length : Int) := zo (by assumption)
     obtain ⟨ad325, e325, hx325_0⟩ := Kd.at_int HR1.out x13_1 p325 q325
     cases e325
     replace p325 := eq_true p325
     replace q325 := eq_true q325
     go_wp2
     repeat (go_quiet (fail); try go_wp2)
     go_ret
     exact ⟨zX, zD⟩
   rw [if_pos c8] at H
   have c8b0 : ((rd l0 x13_1) == (rd l1 x13_1)) = true := beq_iff_eq.mpr c8
   have c8b1 : ((rd l0 x13_1) != (rd l1 x13_1)) = false := bne_eq_false_iff_eq.mpr c8
   clear c8
   have H' := zk H
   clear H
   have p324 : 0 ≤ (x13_1 : Int) := zo (by assumption)
   have q324 : x13_1 < (l0.length : Int) := zo (by assumption)
   obtain ⟨ad324, e324, hx324_0⟩ := Kd.at_int HR0.out x13_1 p324 q324
   cases e324
   replace p324 := eq_true p324
   replace q324 := eq_true q324
   have p325 : 0 ≤ (x13_1 : Int) := zo (by assumption)
   have q325 : x13_1 < (l1.length : Int) := zo (by assumption)
   obtain ⟨ad325, e325, hx325_0⟩ := Kd.at_int HR1.out x13_1 p325 q325
   cases e325
   replace p325 := eq_true p325
   replace q325 := eq_true q325
   go_wp2
   repeat (go_quiet (fail); try go_wp2)
   go_roundg k1
   case measure => have := HK1.out; omega
   case rel => exact ⟨(wrap64 (x13_1 + 1)), (by first | rfl | (simp; done) | (simp [*]; done)), H', ⟨by have := HK1.out; omega⟩, zD⟩

/-! ### slices_Clone_int_int: function 248 -/
def slices_Clone_int_int.f (l0 : List Int) : Option (List Int) := if l0.length < 17592186044416 then (some l0) else (none)
set_option maxHeartbeats 8000000 in
set_option maxRecDepth 100000 in
theorem slices_Clone_int_int.calls (A0 : Option Addr) (c0 : Nat) (l0 : List Int) (r : List Int) (w : World) (hr0 : Kd.C (Kd.int .i64) w A0 l0.length l0) (hc0 : l0.length ≤ c0) (h : slices_Clone_int_int.f l0 = some r) :
 Calls Try.prog 248 #[.slice A0 l0.length c0] w fun e w' => ∃ v0_ : Value, e = .returned (v0_) ∧ Kd.R (Kd.int .i64) 3 w' w.heap.size (fun _ => True) v0_ r ∧ Below w.heap.size w w' := by
 have hnil := fun (w : World) (a : Option Addr) (n c : Nat) => Lib.run_eql_slice_nil (P := Try.prog) w 22 3 a n c 0 0 Try.underlying22
 have HR0 := zk hr0
 have HC0 := zk hc0
 clear hr0 hc0
 have HB := zk (Below.refl w.heap.size w)
 unfold slices_Clone_int_int.f at h
 by_cases c2 : l0.length < 17592186044416
 rotate_left
 · rw [if_neg c2] at h
   exact absurd h (by simp)
 rw [if_pos c2] at h
 have LMc2 := zk c2
 clear c2
 obtain rfl := Option.some.inj h
 clear h
 cases A0 with
 | none =>
  have hl : l0 = [] := by
   have h1 := HR0.out.1
   have h2 := HR0.out.2.2
   cases l0 with
   | nil => rfl
   | cons x l =>
    exfalso
    obtain ⟨ad, e, _⟩ := Kd.at_int HR0.out 0 (by omega) (by simp only [List.length_cons]; omega)
    cases e
  subst hl
  go_enter Try.func248, Try.ntmps248
  go_wp2
  go_ret
  exact ⟨_, rfl, Kd.R_nil _ _ _ _ _, HB.out⟩
 | some a =>
  obtain ⟨y115, hy115⟩ : ∃ y_ : List Int, y_ = (([] : List Int)) := ⟨_, rfl⟩
  have Ny115 := zk hy115
  clear hy115
  obtain ⟨y118, hy118⟩ : ∃ y_ : List Int, y_ = (y115 ++ l0) := ⟨_, rfl⟩
  have Ny118 := zk hy118
  clear hy118
  have E118 := zk (show y118 = l0 from by rw [Ny118.out, Ny115.out]; rfl)
  have L115 := zk (show y115.length = 0 from by rw [Ny115.out]; rfl)
  go_enter Try.func248, Try.ntmps248
  go_wp2_with (first | ((with_reducible refine gate_dst (N := 5) rfl ?_); refine zL 5 3 [] (Below.refl _ _) (Nat.le_refl _) ?_; intro v116 w3 ho4 hb hg_ hnew_; clear hg_ hnew_; (first | rw [← Ny115.out] at ho4 | (simp only [Int.reduceToNat] at ho4; rw [← Ny115.out] at ho4)); have HO117 := zk (Kd.R_lower ho4 (below_size (zB HB))); replace HB := zF HB hb; clear hb ho4) | ((with_reducible refine gate_builtin (b := .append) (xs := #[.tmp 5, .tmp 6]) rfl ?_); at_builtin; refine Kd.R_append_rows (Kd.int .i64) (w0 := w) w.heap.size rfl (.tmp 5) (.tmp 6) 22 3 (.int .i64 0) 8 rfl Try.underlying22 info3 rfl (by decide) (by omega) v116 y115 l0 _ _ _ (fun _ => True) (fun _ => False) rfl rfl ?aO ?aR (fun _ _ h => h) (fun _ h => h.elim) ?aF ?aB ?aS ?aL ?_; (case aR => exact zC (Kd.C_below HR0.out HB.out)); (case aB => exact (zB HB)); (case aF => exact (fun _ _ => trivial)); (case aO => exact (zR HO117)); (case aS => exact (below_size (zB HB))); (case aL => have := LMc2.out; have := L115.out; omega); intro v119 w5 ho hb hg hat; rw [← Ny118.out] at ho; have HO120 := zk (ho); replace HB := zk (hb); clear HO117; clear ho hb hg hat))
  go_ret
  exact ⟨_, by first | rfl | (simp [errW_none, errW_some] <;> rfl) | (simp [*, errW_none, errW_some] <;> rfl), by (with_reducible repeat (first | apply zs | apply zr | apply zt)); rw [← E118.out]; exact HO120.out, by repeat (first | exact HB.out | apply za | apply zd | apply ze)⟩

/-! ### shared: atshape -/
section
open Go.Proofs.Ytlkddcabjcejdaa.Base
theorem impl_shape_in (l : List Int) (hl : l.length ≤ 7) (x : Int) (i : Int) (out R : List Int) (ho : out.length ≤ 7) : ∀ (suf pre : List Int) (a : Int), l = pre ++ suf → 0 ≤ a → a + suf.length ≤ 100 → Ev (fun k => impl_shape.l0 k l (out ++ [a + lessN x suf]) l (l.length : Int) (wrap64 (i + 1))) R → Ev (fun k => impl_shape.l1 k l out x a l (l.length : Int) i l (l.length : Int) (pre.length : Int)) R := by
 intro suf
 induction suf with
 | nil =>
  intro pre a e h0 h1 hR
  have h := len_end e
  refine ev_succ ?_
  simp only [impl_shape.l1.eq_2]
  refine ev_neg (by omega) (ev_pos (by omega) ?_)
  simpa [lessN] using hR
 | cons c suf ih =>
  intro pre a e h0 h1 hR
  have h := len_mid e
  simp only [List.length_cons] at h1
  refine ev_succ ?_
  simp only [impl_shape.l1.eq_2, rd_mid' e]
  rw [wrap_snoc (pre := pre) (c := c) (by omega)]
  refine ev_pos (by omega) (ev_pos (by omega) (ev_pos (by omega) ?_))
  rw [lessN_cons] at hR
  by_cases hc : c < x
  · refine ev_pos hc ?_
    rw [wrap_of (x := a + 1) (by omega) (by omega)]
    refine ih _ _ (snoc_mid e) (by omega) (by omega) ?_
    rw [if_pos hc] at hR
    rwa [show a + 1 + (lessN x suf : Int) = a + ((1 + lessN x suf : Nat) : Int) by omega]
  · refine ev_neg hc (ih _ _ (snoc_mid e) (by omega) (by omega) ?_)
    rw [if_neg hc] at hR
    simpa using hR
theorem impl_shape_l (l : List Int) (hl : l.length ≤ 7) : ∀ (suf pre out : List Int), l = pre ++ suf → out.length = pre.length → Ev (fun k => impl_shape.l0 k l out l (l.length : Int) (pre.length : Int)) (out ++ suf.map (fun x => ((1 + lessN x l : Nat) : Int))) := by
 intro suf
 induction suf with
 | nil =>
  intro pre out e ho
  have h := len_end e
  refine ev_succ ?_
  simp only [impl_shape.l0.eq_2]
  exact ev_neg (by omega) (ev_now (by simp))
 | cons c suf ih =>
  intro pre out e ho
  have h := len_mid e
  refine ev_succ ?_
  simp only [impl_shape.l0.eq_2, rd_mid' e]
  refine ev_pos (by omega) (ev_pos (by omega) (ev_pos (by omega) (impl_shape_in l hl c _ out _ (by omega) l [] 1 rfl (by omega) (by omega) ?_)))
  rw [wrap_snoc (pre := pre) (c := c) (by omega)]
  refine ev_eq (ih _ _ (snoc_mid e) ?_) ?_
  · simp [ho]
  · simp
theorem impl_shape_ev (l : List Int) (hl : l.length ≤ 7) : Ev (fun k => impl_shape.f k l) (shapeL l) := by
 unfold impl_shape.f shapeL
 exact impl_shape_l l hl l [] [] rfl rfl

theorem impl_at_l (l xs : List Int) (hl : xs.length ≤ 7) (hq : ∀ x ∈ xs, 0 ≤ x ∧ x < (l.length : Int)) : ∀ (suf pre out : List Int), xs = pre ++ suf → out.length = pre.length → Ev (fun k => impl_at.l0 k l out xs (xs.length : Int) (pre.length : Int)) (out ++ atG l suf) := by
 intro suf
 induction suf with
 | nil =>
  intro pre out e ho
  have h := len_end e
  refine ev_succ ?_
  simp only [impl_at.l0.eq_2]
  exact ev_neg (by omega) (ev_now (by simp [atG]))
 | cons c suf ih =>
  intro pre out e ho
  have h := len_mid e
  have hc := hq c (by rw [e]; simp)
  refine ev_succ ?_
  simp only [impl_at.l0.eq_2, rd_mid' e]
  rw [wrap_snoc (pre := pre) (c := c) (by omega)]
  refine ev_pos (by omega) (ev_pos (by omega) (ev_pos (by omega) (ev_pos (by omega) (ev_pos (by omega) (ev_pos (by omega) (ev_eq (ih _ _ (snoc_mid e) (by simp [ho])) ?_))))))
  simp [atG]
theorem impl_at_ev (l xs : List Int) (hl : xs.length ≤ 7) (hq : ∀ x ∈ xs, 0 ≤ x ∧ x < (l.length : Int)) : Ev (fun k => impl_at.f k l xs) (atG l xs) := by
 unfold impl_at.f
 exact impl_at_l l xs hl hq xs [] [] rfl rfl
theorem equal_l (a b : List Int) (hl : a.length * 8 ≤ 140737488351232) : ∀ (s t pre q : List Int), a = pre ++ s → b = q ++ t → pre.length = q.length → s.length = t.length → Ev (fun k => slices_Equal_int_int.l0 k a b (a.length : Int) (pre.length : Int)) (decide (s = t)) := by
 intro s
 induction s with
 | nil =>
  intro t pre q e e' h1 h2
  have h := len_end e
  obtain rfl : t = [] := by cases t with
   | nil => rfl
   | cons _ _ => simp at h2
  refine ev_succ ?_
  simp only [slices_Equal_int_int.l0.eq_2]
  exact ev_neg (by omega) (ev_now (by simp))
 | cons c s ih =>
  intro t pre q e e' h1 h2
  cases t with
  | nil => simp at h2
  | cons d t =>
  have h := len_mid e
  have h' := len_mid e'
  refine ev_succ ?_
  have r1 := rd_mid' e
  have r2 := rd_mid' e'
  rw [← h1] at r2
  simp only [slices_Equal_int_int.l0.eq_2, r1, r2]
  refine ev_pos (by omega) (ev_pos (by omega) (ev_pos (by omega) (ev_pos (by omega) ?_)))
  by_cases hc : c = d
  · refine ev_pos hc ?_
    rw [wrap_snoc (pre := pre) (c := c) (by omega)]
    refine ev_eq (ih t (pre ++ [c]) (q ++ [d]) (snoc_mid e) (snoc_mid e') (by simp [h1]) (by simpa using h2)) ?_
    simp [hc]
  · exact ev_neg hc (ev_now (by simp [hc]))
theorem equal_ev (a b : List Int) (hl : a.length * 8 ≤ 140737488351232) : Ev (fun k => slices_Equal_int_int.f k a b) (decide (a = b)) := by
 unfold slices_Equal_int_int.f
 by_cases h : a.length = b.length
 · exact ev_pos (by omega) (equal_l a b hl a b [] [] rfl rfl rfl h)
 · refine ev_neg (by omega) (ev_now ?_)
   symm
   exact decide_eq_false (fun e => h (by rw [e]))
theorem cp_res (l p : List Int) (hp : p.length ≤ 7) : ∀ xs : List Int, xs.length = p.length → (∀ x ∈ xs, 0 ≤ x ∧ x < (l.length : Int)) → ∃ k1 k2 k3, impl_at.f k1 l xs = some (atG l xs) ∧ impl_shape.f k2 (atG l xs) = some (shapeL (atG l xs)) ∧ slices_Equal_int_int.f k3 (shapeL (atG l xs)) p = some (decide (shapeL (atG l xs) = p)) := by
 intro xs hx hq
 have hal : (atG l xs).length ≤ 7 := by simp [atG]; omega
 obtain ⟨k1, h1⟩ := impl_at_ev l xs (by omega) hq
 obtain ⟨k2, h2⟩ := impl_shape_ev (atG l xs) hal
 obtain ⟨k3, h3⟩ := equal_ev (shapeL (atG l xs)) p (by simp [shapeL]; omega)
 exact ⟨k1, k2, k3, h1 k1 (Nat.le_refl _), h2 k2 (Nat.le_refl _), h3 k3 (Nat.le_refl _)⟩
end

end Go.Proofs.Ytlkddcabjcejdaa.MFnAvoiding
