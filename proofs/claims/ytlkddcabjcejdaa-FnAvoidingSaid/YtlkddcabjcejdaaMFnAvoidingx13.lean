/- Functions that FnAvoiding comes to, a walk for each: by wip/tools/mk.py and post.py. No condition. -/
import Derived.Test.YtlkddcabjcejdaaMFnAvoidingx0
import Derived.Test.YtlkddcabjcejdaaMFnAvoidingx1
import Derived.Test.YtlkddcabjcejdaaMFnAvoidingx12
namespace Go.Proofs.Ytlkddcabjcejdaa.MFnAvoiding
open Go.RowKit Go.Proofs.YtlkddcabjcejdaaW.PrintWords Go.Proofs.YtlkddcabjcejdaaW.PrintLast Go.Proofs.YtlkddcabjcejdaaW.PrintMore
attribute [local go_sem] max2_int min2_int max_two min_two max_three min_three max_four min_four
set_option linter.unusedVariables false
set_option linter.unusedSimpArgs false

/-! ### spec_l2Ways: function 193 -/
def spec_l2Ways.l0 : Nat → Int → Int → Int → Option (Int)
 | 0, _, _, _ => none
 | k + 1, x0, x3, x4 => if x4 ≤ x0 then (spec_l2Ways.l0 k x0 (wrap64 (x3 * x4)) (wrap64 (x4 + 1))) else (some x3)
def spec_l2Ways.f (k : Nat) (a0 : Int) : Option (Int) := spec_l2Ways.l0 k a0 1 2
theorem spec_l2Ways.mono_l : ∀ k, (∀ y0 y1 y2, LeO (spec_l2Ways.l0 k y0 y1 y2) (spec_l2Ways.l0 (k + 1) y0 y1 y2))
 | 0 => fun _ _ _ r h => by simp [spec_l2Ways.l0] at h
 | k + 1 => by
  have ih0 := spec_l2Ways.mono_l k
  · intro y0 y1 y2
    unfold spec_l2Ways.l0
    repeat' first
    | (with_reducible exact ih0 _ _ _)
    | (with_reducible exact LeO.refl _)
    | (with_reducible exact LeO.none _)
    | (with_reducible refine LeO.ite ?_ ?_)
    | (with_reducible refine LeO.bind ?_ (fun _ => ?_))
    | exact ih0 _ _ _
    | exact LeO.none _
    | refine LeO.ite ?_ ?_
    | refine LeO.bind ?_ (fun _ => ?_)
theorem spec_l2Ways.mono : ∀ a0 k, LeO (spec_l2Ways.f k a0) (spec_l2Ways.f (k + 1) a0) := by
 intro a0 k
 have ih0 := spec_l2Ways.mono_l k
 unfold spec_l2Ways.f
 repeat' first
  | (with_reducible exact ih0 _ _ _)
  | (with_reducible exact LeO.refl _)
  | (with_reducible exact LeO.none _)
  | (with_reducible refine LeO.ite ?_ ?_)
  | (with_reducible refine LeO.bind ?_ (fun _ => ?_))
  | exact ih0 _ _ _
  | exact LeO.none _
  | refine LeO.ite ?_ ?_
  | refine LeO.bind ?_ (fun _ => ?_)
set_option maxHeartbeats 8000000 in
set_option maxRecDepth 100000 in
theorem spec_l2Ways.calls (k : Nat) (a0 : Int) (r : Int) (w : World) (h : spec_l2Ways.f k a0 = some r) :
 Calls Try.prog 193 #[.int .i64 a0] w fun e w' => e = .returned (.int .i64 r) ∧ Drawn0 w w' := by
 have H : (spec_l2Ways.l0 k a0 1 2) = some r := h
 clear h
 have H' := zk H
 clear H
 go_enter Try.func193, Try.ntmps193
 go_wp2
 go_loopg [3, 4] k (fun kq v3 v4 w' => ∃ (x3_1 : Int) (x4_1 : Int), v3 = .int .i64 x3_1 ∧ v4 = .int .i64 x4_1 ∧ Aside0 (spec_l2Ways.l0 kq a0 x3_1 x4_1 = some r) ∧ Aside0 (kq ≤ k) ∧ Drawn0 w w')
 case atStart => exact ⟨(1), (2), (by first | rfl | (simp; done) | (simp [*]; done)), (by first | rfl | (simp; done) | (simp [*]; done)), H', ⟨Nat.le_refl _⟩, zD⟩
 case round =>
  clear H'
  try clear c1
  obtain ⟨x3_1, x4_1, rfl, rfl, HA, HK1, ⟨m1, rfl⟩⟩ := hrel
  cases gk with
  | zero => exact absurd HA.out (by simp [spec_l2Ways.l0])
  | succ k1 =>
   have H := HA.out
   clear HA
   simp only [spec_l2Ways.l0] at H
   by_cases c2 : x4_1 ≤ a0
   rotate_left
   · rw [if_neg c2] at H
     have c2b0 := decide_eq_false c2
     clear c2
     obtain rfl := Option.some.inj H
     go_wp2
     go_ret
     exact ⟨zX, zD⟩
   rw [if_pos c2] at H
   have c2b0 := decide_eq_true c2
   clear c2
   have H' := zk H
   clear H
   go_wp2
   go_roundg k1
   case measure => have := HK1.out; omega
   case rel => exact ⟨(wrap64 (x3_1 * x4_1)), (wrap64 (x4_1 + 1)), (by first | rfl | (simp; done) | (simp [*]; done)), (by first | rfl | (simp; done) | (simp [*]; done)), H', ⟨by have := HK1.out; omega⟩, zD⟩

/-! ### spec_l2At: function 191 -/
def spec_l2At.l0 : Nat → Int → List Int → List Int → Option (List Int)
 | 0, _, _, _ => none
 | k + 1, x1, x5, x6 => if (x6.length : Int) > 0 then ((spec_l2Ways.f k (wrap64 ((x6.length : Int) - 1))).bind fun t584 => (if t584 = 0 then (none) else (if 0 ≤ (wrap64 (Int.tdiv x1 t584)) then (if (wrap64 (Int.tdiv x1 t584)) < (x6.length : Int) then (if x5.length < 17592186044416 then (if (wrap64 (Int.tdiv x1 t584)) ≤ (x6.length : Int) then ((spec_l1Own.f (x6.take ((wrap64 (Int.tdiv x1 t584)) : Int).toNat)).bind fun t593 => (if 0 ≤ (wrap64 ((wrap64 (Int.tdiv x1 t584)) + 1)) then (if (wrap64 ((wrap64 (Int.tdiv x1 t584)) + 1)) ≤ (x6.length : Int) then ((some (x6.drop ((wrap64 ((wrap64 (Int.tdiv x1 t584)) + 1)) : Int).toNat : List Int)).bind fun y596 => (if t593.length + y596.length < 17592186044416 then (spec_l2At.l0 k (Int.tmod x1 t584) (x5 ++ [rd x6 (wrap64 (Int.tdiv x1 t584))]) (t593 ++ y596)) else (none))) else (none)) else (none))) else (none)) else (none)) else (none)) else (none)))) else (some x5)
def spec_l2At.f (k : Nat) (a0 : Int) (a1 : Int) : Option (List Int) := (spec_l2Sorted.f k a0).bind fun t581 => (spec_l2At.l0 k a1 (([] : List Int)) t581)
def spec_l2At.T5 : Bool × List (List Nat × List Nat) := (true, [([], []), ([], []), ([], []), ([1, 2], [1, 2]), ([0, 3], [0, 3]), ([4], [4]), ([], []), ([], []), ([], []), ([7, 8], [7, 8]), ([9], [9]), ([6, 10], [6, 10]), ([5, 11, 5], [5, 11]), ([12, 12, 0, 1, 2, 3, 4, 5, 6, 7, 8, 9, 10, 11, 12], [0, 6, 12])])
def spec_l2At.B5 : List Nat := [0, 0, 0, 6, 15, 31, 0, 0, 0, 384, 896, 1984, 4095, 8191]
theorem spec_l2At.tab5 : rtab .any (opsOf Try.f191 5) = spec_l2At.T5 := by kernel_rfl
theorem spec_l2At.bits5 : waitsOk spec_l2At.T5.2 spec_l2At.B5 = true := by kernel_rfl
set_option maxHeartbeats 8000000 in
set_option maxRecDepth 100000 in
theorem spec_l2At.calls (k : Nat) (a0 : Int) (a1 : Int) (r : List Int) (w : World) (h : spec_l2At.f k a0 a1 = some r) :
 Calls Try.prog 191 #[.int .i64 a0, .int .i64 a1] w fun e w' => ∃ v0_ : Value, e = .returned (v0_) ∧ Kd.R (Kd.int .i64) 3 w' w.heap.size (fun _ => True) v0_ r ∧ Below w.heap.size w w' := by
 have HB := zk (Below.refl w.heap.size w)
 have H := h
 unfold spec_l2At.f at H
 clear h
 obtain ⟨y578, hy578⟩ : ∃ y_ : List Int, y_ = (([] : List Int)) := ⟨_, rfl⟩
 replace H : ((spec_l2Sorted.f k a0).bind fun t581 => (spec_l2At.l0 k a1 y578 t581)) = some r := by first | (rw [hy578]; with_reducible exact H) | (have H2_ := (Option.bind_some _ _).symm.trans H; rw [hy578]; with_reducible exact H2_) | (have H2_ := (Option.bind_some _ _).symm.trans H; with_reducible exact H2_) | with_reducible exact H | (rw [hy578]; exact H) | exact H
 have Ny578 := zk hy578
 clear hy578
 replace H := Option.bind_eq_some_iff.mp H
 obtain ⟨t581, A30, H⟩ := H
 try dsimp only at H
 have A3 := zk A30
 clear A30
 have H' := zk H
 clear H
 go_enter Try.func191, Try.ntmps191
 go_wp2_with (first | ((with_reducible refine gate_dst (N := 8) rfl ?_); refine zL 8 3 [] (Below.refl _ _) (Nat.le_refl _) ?_; intro v579 w4 ho5 hb hg_ hnew_; clear hg_ hnew_; (first | rw [← Ny578.out] at ho5 | (simp only [Int.reduceToNat] at ho5; rw [← Ny578.out] at ho5)); have HO580 := zk (Kd.R_lower ho5 (below_size (zB HB))); replace HB := zF HB hb; clear hb ho5) | ((with_reducible refine gate_callee (f := 171) rfl ?_); refine zG (some 10) Try.func171 #[.int .i64 a0] ?_; (with_reducible refine (spec_l2Sorted.calls k a0 t581 _ A3.out).mono ?_); rintro e w6 ⟨v582, rfl, ho0, hb⟩; refine ⟨_, rfl, ?_⟩; have HO583 := zk (Kd.R_lower (Kd.R_new' ho0 (Kd.R_lt (zR HO580))) (below_size (zB HB))); replace HO580 := zE HO580 ho0 hb; replace HB := zF HB hb; (try clear hb ho0)))
 go_loopg [1, 5, 6] k (fun kq v1 v5 v6 w' => ∃ (x1_1 : Int) (x5_1 : List Int) (x6_1 : List Int), v1 = .int .i64 x1_1 ∧ Aside0 (spec_l2At.l0 kq x1_1 x5_1 x6_1 = some r) ∧ Aside0 (kq ≤ k) ∧ Aside0 (Kd.R (Kd.int .i64) 3 w' w.heap.size (fun k_ => some k_ ≠ (v6 : Value).ownBlock) v5 x5_1) ∧ Aside0 (Kd.R (Kd.int .i64) 3 w' w.heap.size (fun k_ => some k_ ≠ (v5 : Value).ownBlock) v6 x6_1) ∧ Aside0 (Below w.heap.size w w'))
 case atStart => exact ⟨(a1), (y578), (t581), (by first | rfl | (simp; done) | (simp [*]; done)), H', ⟨Nat.le_refl _⟩, ⟨by (with_reducible repeat (first | apply zs | apply zr | apply zt)); exact Kd.R_mono HO580.out (fun _ hk => hk.2)⟩, ⟨by (with_reducible repeat (first | apply zs | apply zr | apply zt)); exact Kd.R_mono HO583.out (fun _ hk => hk.2)⟩, ⟨by repeat (first | exact HB.out | apply za | apply zd | apply ze)⟩⟩
 case round =>
  clear H'
  try clear c1
  try clear p2
  obtain ⟨x1_1, x5_1, x6_1, rfl, HA, HK1, HO_5, HO_6, HB⟩ := hrel
  cases gk with
  | zero => exact absurd HA.out (by simp [spec_l2At.l0])
  | succ k1 =>
   have H := HA.out
   clear HA
   simp only [spec_l2At.l0] at H
   by_cases c7 : (x6_1.length : Int) > 0
   rotate_left
   · rw [if_neg c7] at H
     have c7b0 := decide_eq_false c7
     have c7b1 : decide (0 < x6_1.length) = false := decide_eq_false (by omega)
     have c7b9 : ¬ (0 < x6_1.length) := by omega
     clear c7
     obtain rfl := Option.some.inj H
     obtain ⟨Ao28, co28, eo28⟩ := Kd.R_slice HO_6.out
     subst eo28
     go_wp2
     go_ret
     exact ⟨_, by first | rfl | (simp [errW_none, errW_some] <;> rfl) | (simp [*, errW_none, errW_some] <;> rfl), by (with_reducible repeat (first | apply zs | apply zr | apply zt)); exact Kd.R_mono HO_5.out (fun _ hk => trivial), by repeat (first | exact HB.out | apply za | apply zd | apply ze)⟩
   rw [if_pos c7] at H
   have c7b0 := decide_eq_true c7
   have c7b1 : decide (0 < x6_1.length) = true := decide_eq_true (by omega)
   have c7b9 : (0 < x6_1.length) := by omega
   clear c7
   replace H := Option.bind_eq_some_iff.mp H
   obtain ⟨t584, A80, H⟩ := H
   try dsimp only at H
   have A8 := zk A80
   clear A80
   by_cases c9 : t584 = 0
   rotate_left
   · rw [if_neg c9] at H
     have c9b0 : (t584 == 0) = false := beq_eq_false_iff_ne.mpr c9
     have c9b1 : (t584 != 0) = true := bne_iff_ne.mpr c9
     obtain ⟨ji10, hji10⟩ : ∃ j_ : Int, (wrap64 (Int.tdiv x1_1 t584)) = j_ := ⟨_, rfl⟩
     replace H : (if 0 ≤ (ji10) then (if (ji10) < (x6_1.length : Int) then (if x5_1.length < 17592186044416 then (if (ji10) ≤ (x6_1.length : Int) then ((spec_l1Own.f (x6_1.take ((ji10) : Int).toNat)).bind fun t593 => (if 0 ≤ (wrap64 ((ji10) + 1)) then (if (wrap64 ((ji10) + 1)) ≤ (x6_1.length : Int) then ((some (x6_1.drop ((wrap64 ((ji10) + 1)) : Int).toNat : List Int)).bind fun y596 => (if t593.length + y596.length < 17592186044416 then (spec_l2At.l0 k1 (Int.tmod x1_1 t584) (x5_1 ++ [rd x6_1 (ji10)]) (t593 ++ y596)) else (none))) else (none)) else (none))) else (none)) else (none)) else (none)) else (none)) = some r := by first | (rw [hji10] at H; exact H) | (simp only [hji10] at H ⊢; exact H)
     (try rw [hji10] at A8)
     have hji10w : (IntKind.i64.wrap (Int.tdiv x1_1 t584)) = ji10 := (i64_w _).trans hji10
     by_cases c11 : 0 ≤ (ji10)
     rotate_left
     · rw [if_neg c11] at H
       exact absurd H (by simp)
     rw [if_pos c11] at H
     have c11b0 := decide_eq_true c11
     clear c11
     by_cases c12 : (ji10) < (x6_1.length : Int)
     rotate_left
     · rw [if_neg c12] at H
       exact absurd H (by simp)
     rw [if_pos c12] at H
     have c12b0 := decide_eq_true c12
     clear c12
     by_cases c13 : x5_1.length < 17592186044416
     rotate_left
     · rw [if_neg c13] at H
       exact absurd H (by simp)
     rw [if_pos c13] at H
     have LMc13 := zk c13
     clear c13
     obtain ⟨y586, hy586⟩ : ∃ y_ : List Int, y_ = (x5_1 ++ [rd x6_1 (ji10)]) := ⟨_, rfl⟩
     rw [← hy586] at H
     try rw [zO y586] at H
     try dsimp only at H
     have Ny586 := zk hy586
     clear hy586
     have c14b0 := eq_true (zo (by assumption) : 0 ≤ (ji10))
     by_cases c15 : (ji10) ≤ (x6_1.length : Int)
     rotate_left
     · rw [if_neg c15] at H
       exact absurd H (by simp)
     rw [if_pos c15] at H
     have c15b0 := eq_true c15
     have c15b1 := decide_eq_true c15
     clear c15
     obtain ⟨y589, hy589⟩ : ∃ y_ : List Int, y_ = (x6_1.take ((ji10) : Int).toNat) := ⟨_, rfl⟩
     rw [← hy589] at H
     try rw [zO y589] at H
     try dsimp only at H
     have Ny589 := zk hy589
     clear hy589
     replace H := Option.bind_eq_some_iff.mp H
     obtain ⟨t593, A160, H⟩ := H
     try dsimp only at H
     have A16 := zk A160
     clear A160
     obtain ⟨ji17, hji17⟩ : ∃ j_ : Int, (wrap64 ((ji10) + 1)) = j_ := ⟨_, rfl⟩
     replace H : (if 0 ≤ (ji17) then (if (ji17) ≤ (x6_1.length : Int) then ((some (x6_1.drop ((ji17) : Int).toNat : List Int)).bind fun y596 => (if t593.length + y596.length < 17592186044416 then (spec_l2At.l0 k1 (Int.tmod x1_1 t584) y586 (t593 ++ y596)) else (none))) else (none)) else (none)) = some r := by first | (rw [hji17] at H; exact H) | (simp only [hji17] at H ⊢; exact H)
     (try rw [hji17] at A8)
     (try rw [hji17] at A16)
     have hji17w : (IntKind.i64.wrap ((ji10) + 1)) = ji17 := (i64_w _).trans hji17
     by_cases c18 : 0 ≤ (ji17)
     rotate_left
     · rw [if_neg c18] at H
       exact absurd H (by simp)
     rw [if_pos c18] at H
     have c18b0 := eq_true c18
     have c18b1 := decide_eq_true c18
     clear c18
     by_cases c19 : (ji17) ≤ (x6_1.length : Int)
     rotate_left
     · rw [if_neg c19] at H
       exact absurd H (by simp)
     rw [if_pos c19] at H
     have c19b0 := eq_true c19
     have c19b1 := decide_eq_true c19
     clear c19
     obtain ⟨y596, hy596⟩ : ∃ y_ : List Int, y_ = (x6_1.drop ((ji17) : Int).toNat) := ⟨_, rfl⟩
     rw [← hy596] at H
     try rw [zO y596] at H
     try dsimp only at H
     have Ny596 := zk hy596
     clear hy596
     by_cases c20 : t593.length + y596.length < 17592186044416
     rotate_left
     · rw [if_neg c20] at H
       exact absurd H (by simp)
     rw [if_pos c20] at H
     have LMc20 := zk c20
     clear c20
     obtain ⟨y600, hy600⟩ : ∃ y_ : List Int, y_ = (t593 ++ y596) := ⟨_, rfl⟩
     replace H : (spec_l2At.l0 k1 (Int.tmod x1_1 t584) y586 y600) = some r := by first | (rw [hy600]; with_reducible exact H) | (have H2_ := (Option.bind_some _ _).symm.trans H; rw [hy600]; with_reducible exact H2_) | (have H2_ := (Option.bind_some _ _).symm.trans H; with_reducible exact H2_) | with_reducible exact H | (rw [hy600]; exact H) | exact H
     have Ny600 := zk hy600
     clear hy600
     have H' := zk H
     clear H
     obtain ⟨Ao21, co21, eo21⟩ := Kd.R_slice HO_6.out
     subst eo21
     try go_wp2_with (first | ((with_reducible refine gate_callee (f := 193) rfl ?_); refine zG (some 17) Try.func193 #[.int .i64 (wrap64 ((x6_1.length : Int) - 1))] ?_; (with_reducible refine (spec_l2Ways.calls k1 (wrap64 ((x6_1.length : Int) - 1)) t584 _ A8.out).mono ?_); rintro e w' ⟨rfl, ⟨nd, rfl⟩⟩; refine ⟨_, rfl, ?_⟩; have p585 : 0 ≤ ((ji10) : Int) := zo (by assumption); have q585 : (ji10) < (x6_1.length : Int) := zo (by assumption); obtain ⟨ad585, e585, hx585_0⟩ := Kd.at_int (Kd.R_reads' HO_6.out).2.2 (ji10) p585 q585; cases e585; replace p585 := eq_true p585; replace q585 := eq_true q585) | ((with_reducible refine gate_builtin (b := .append) (xs := #[.tmp 18, .tmp 25]) rfl ?_); at_builtin; refine Kd.R_append (Kd.int .i64) (w0 := w) w.heap.size rfl (.tmp 18) (.tmp 25) 22 3 (.int .i64 0) 8 rfl Try.underlying22 info3 rfl (by decide) (by omega) u5 x5_1 (rd x6_1 (ji10)) [.int .i64 (rd x6_1 (ji10))] (fun k_ => some k_ ≠ (.slice (some ad585) x6_1.length co21 : Value).ownBlock) (fun _ => False) rfl rfl ?aP (fun _ hk => hk.elim) ?aF ?aO ?aB ?aS ?aL ?_; (case aP => exact rfl); (case aB => exact (zB HB)); (case aF => exact (fun k_ hk => Kd.fresh' (Kd.R_lt (zR HO_6)) k_ hk)); (case aO => exact (zR HO_5)); (case aS => exact (below_size (zB HB))); (case aL => have := LMc13.out; omega); intro v587 w22 ho hb hg hat; rw [← Ny586.out] at ho; have HO588 := zk (ho); replace HO_6 := zk (Kd.R_after (ok := (fun _ => True)) (by (with_reducible repeat (first | apply zs | apply zr | apply zt)); first | exact Kd.R_mono HO_6.out (fun _ hk => ⟨trivial, hk⟩) | exact Kd.R_mono HO_6.out (fun k_ hk => by (have own_ : ∀ (A : Option Addr) (n c : Nat), (Value.slice A n c).ownBlock = A.map Addr.block := fun A n c => by cases A <;> rfl); simp only [own_] at hk ⊢; exact ⟨trivial, hk⟩)) hg hat); replace HB := zk (hb); clear HO_5; clear ho hb hg hat))
     have n0_ := zk (zt HO_6.out)
     have n1_ := zk (zt HO588.out)
     have n2_ := zk (ze HB.out)
     clear HO_6
     clear HO588
     clear HB
     have HO_6 := n0_
     have HO588 := n1_
     have HB := n2_
     clear n0_ n1_ n2_
     have q24 : ((ji10) : Int) ≤ ((x6_1.length : Int) : Int) := zo (by assumption)
     obtain ⟨i024, hi024, _, hsz24, _⟩ := info_parts info3
     have hroom24 : x6_1.length ≤ co21 := (Kd.R_reads' HO_6.out).2.1
     have hC24 : Kd.C (Kd.int .i64) _ (some ad585) x6_1.length x6_1 := (Kd.R_reads' HO_6.out).2.2
     have hcut24 := cut_to (P := Try.prog) 22 3 .i64 Try.underlying22 hi024 (some ad585) x6_1.length co21 (ji10) (zo (by assumption)) q24 hroom24
     have hr24 := Kd.C_take (m := ((ji10) : Int).toNat) hC24 (by omega)
     have hy24 : y589.length = ((ji10) : Int).toNat := (by rw [Ny589.out, List.length_take]; omega)
     rw [← Ny589.out] at hr24
     rw [← hy24] at hcut24
     have HR592 := zk hr24
     have HC592 := zk (show y589.length ≤ co21 from by omega)
     clear hr24 hC24 hroom24 hi024 hsz24
     have KY24 := zk hy24
     clear hy24
     have KL24 := zk (show ((ji10) : Int).toNat ≤ x6_1.length from by omega)
     replace q24 := eq_true q24
     have q25 : ((ji17) : Int) ≤ ((x6_1.length : Int) : Int) := zo (by assumption)
     obtain ⟨i025, hi025, _, hsz25, _⟩ := info_parts info3
     have hroom25 : x6_1.length ≤ co21 := (Kd.R_reads' HO_6.out).2.1
     have hC25 : Kd.C (Kd.int .i64) _ (some ad585) x6_1.length x6_1 := (Kd.R_reads' HO_6.out).2.2
     have q025 : (0 : Int) ≤ ((ji17) : Int) := zo (by assumption)
     have hcut25 := cut_from (P := Try.prog) 22 3 .i64 Try.underlying22 hi025 1 hsz25 (some ad585) x6_1.length co21 (ji17) q025 q25
     have hr25 := Kd.C_drop (m := ((ji17) : Int).toNat) (c := co21) hC25 (by omega) hroom25
     obtain ⟨A25, hA25⟩ : ∃ A1, A1 = (if co21 = ((ji17) : Int).toNat then (some ad585) else ((some ad585) : Option Addr).map (·.add (((ji17) : Int).toNat * 1))) := ⟨_, rfl⟩
     obtain ⟨c25, hc25⟩ : ∃ c1, c1 = co21 - ((ji17) : Int).toNat := ⟨_, rfl⟩
     have hy25 : y596.length = x6_1.length - ((ji17) : Int).toNat := (by rw [Ny596.out, List.length_drop] <;> omega)
     rw [show (x6_1).drop ((ji17) : Int).toNat = y596 from Ny596.out.symm] at hr25
     replace hr25 : Kd.C (Kd.int .i64) _ A25 y596.length y596 := (by rw [hA25]; exact hr25)
     rw [← hy25, ← hA25, ← hc25] at hcut25
     have HR599 := zk hr25
     have HC599 := zk (show y596.length ≤ c25 from by rw [hy25, hc25]; exact Nat.sub_le_sub_right hroom25 _)
     clear hr25 hC25 hroom25 hi025 hsz25 hc25
     have KY25 := zk hy25
     have KA25 := zk hA25
     clear hy25 hA25
     have KL25 := zk (show ((ji17) : Int).toNat ≤ x6_1.length from by omega)
     replace q25 := eq_true q25
     refine start_ (n := 14) (S := fun w' => True) (ds := []) #[false, false, false, false, false, false, false, false, false, false, false, false, false, false] (by kernel_rfl) rfl rfl trivial (fun hHeld => ?_); refine with_tabW spec_l2At.tab5 spec_l2At.bits5 (fun HT_ HW_ => ?_)
     generalize w22.drew = w23 at HO_6 HO588 HB HR592 HR599 hHeld ⊢
     refine pure_ (i := 0) (N := some 27) (v := ?_) (a' := ?_) #[true, false, false, false, false, false, false, false, false, false, false, false, false, false] rfl rfl (any_of HT_.out (by kernel_rfl)) (fun _ _ _ h => h) (Or.inl ⟨by rfl, ?_⟩) ?_ ?_
     rotate_left
     · intro w'
       go_simp
       with_reducible rfl
     rotate_left
     · exact zQ
     refine pure_ (i := 1) (N := some 28) (v := ?_) (a' := ?_) #[true, true, false, false, false, false, false, false, false, false, false, false, false, false] rfl rfl (any_of HT_.out (by kernel_rfl)) (fun _ _ _ h => h) (Or.inl ⟨by rfl, ?_⟩) ?_ ?_
     rotate_left
     · intro w'
       go_simp
       with_reducible rfl
     rotate_left
     · exact zQ
     refine pure_ (i := 2) (N := some 29) (v := ?_) (a' := ?_) #[true, true, true, false, false, false, false, false, false, false, false, false, false, false] rfl rfl (any_of HT_.out (by kernel_rfl)) (fun _ _ _ h => h) (Or.inl ⟨by rfl, ?_⟩) ?_ ?_
     rotate_left
     · intro w'
       go_simp
       with_reducible rfl
     rotate_left
     · exact zQ
     refine pure_ (i := 3) (N := some 30) (v := ?_) (a' := ?_) #[true, true, true, true, false, false, false, false, false, false, false, false, false, false] rfl rfl (any_of HT_.out (by kernel_rfl)) (fun _ _ _ h => h) (Or.inl ⟨by rfl, ?_⟩) ?_ ?_
     rotate_left
     · intro w'
       go_simp
       with_reducible rfl
     rotate_left
     · exact zQ
     refine pure_ (i := 4) (N := some 31) (v := ?_) (a' := ?_) #[true, true, true, true, true, false, false, false, false, false, false, false, false, false] rfl rfl (any_of HT_.out (by kernel_rfl)) (fun _ _ _ h => h) (Or.inl ⟨by rfl, ?_⟩) ?_ ?_
     rotate_left
     · intro w'
       go_simp
       with_reducible rfl
     rotate_left
     · exact zQ
     refine pure_ (i := 6) (N := some 33) (v := ?_) (a' := ?_) #[true, true, true, true, true, false, true, false, false, false, false, false, false, false] rfl rfl (any_of HT_.out (by kernel_rfl)) (fun _ _ _ h => h) (Or.inl ⟨by rfl, ?_⟩) ?_ ?_
     rotate_left
     · intro w'
       go_simp
       with_reducible rfl
     rotate_left
     · exact zQ
     refine pure_ (i := 7) (N := some 34) (v := ?_) (a' := ?_) #[true, true, true, true, true, false, true, true, false, false, false, false, false, false] rfl rfl (any_of HT_.out (by kernel_rfl)) (fun _ _ _ h => h) (Or.inl ⟨by rfl, ?_⟩) ?_ ?_
     rotate_left
     · intro w'
       go_simp
       with_reducible rfl
     rotate_left
     · exact zQ
     refine pure_ (i := 8) (N := some 35) (v := ?_) (a' := ?_) #[true, true, true, true, true, false, true, true, true, false, false, false, false, false] rfl rfl (any_of HT_.out (by kernel_rfl)) (fun _ _ _ h => h) (Or.inl ⟨by rfl, ?_⟩) ?_ ?_
     rotate_left
     · intro w'
       go_simp
       with_reducible rfl
     rotate_left
     · exact zQ
     refine pure_ (i := 9) (N := some 36) (v := ?_) (a' := ?_) #[true, true, true, true, true, false, true, true, true, true, false, false, false, false] rfl rfl (any_of HT_.out (by kernel_rfl)) (fun _ _ _ h => h) (Or.inl ⟨by rfl, ?_⟩) ?_ ?_
     rotate_left
     · intro w'
       go_simp
       with_reducible rfl
     rotate_left
     · exact zQ
     refine pure_ (i := 10) (N := some 37) (v := ?_) (a' := ?_) #[true, true, true, true, true, false, true, true, true, true, true, false, false, false] rfl rfl (any_of HT_.out (by kernel_rfl)) (fun _ _ _ h => h) (Or.inl ⟨by rfl, ?_⟩) ?_ ?_
     rotate_left
     · intro w'
       go_simp
       with_reducible rfl
     rotate_left
     · exact zQ
     refine pure_ (i := 11) (N := some 38) (v := ?_) (a' := ?_) #[true, true, true, true, true, false, true, true, true, true, true, true, false, false] rfl rfl (any_of HT_.out (by kernel_rfl)) (fun _ _ _ h => h) (Or.inl ⟨by rfl, ?_⟩) ?_ ?_
     rotate_left
     · intro w'
       go_simp
       with_reducible rfl
     rotate_left
     · exact zQ
     refine one_ (i := 5) (N := some 32) #[true, true, true, true, true, true, true, true, true, true, true, true, false, false] rfl rfl (one_of HT_.out (by kernel_rfl)) (by decide) (fun K hK => ?_)
     refine goes_ Try.func169 (by kernel_rfl) rfl #[.slice (some ad585) y589.length co21] (by rfl) rfl rfl (by (try simp only [List.map_toArray, List.map_cons, List.map_nil]); first | done | rfl | (simp only [List.length_drop, List.length_take]; rfl)) ?_
     with_reducible refine (spec_l1Own.calls _ _ y589 t593 _ ?side1 ?side2 A16.out).mono ?_
     (case side1 => exact zC HR592.out)
     (case side2 => exact HC592.out)
     rintro e w26 ⟨v594, rfl, ho0, hb⟩
     refine ⟨_, rfl, ?_⟩
     have n0_ := zE HO_6 ho0 hb
     have n1_ := zE HO588 ho0 hb
     have n2_ := zk (Kd.R_lower (Kd.R_new' (Kd.R_new' ho0 (Kd.R_lt (zR HO_6))) (Kd.R_lt (zR HO588))) (below_size (zB HB)))
     have n3_ := zk (Kd.C_below (zC HR592.out) hb)
     have n4_ := zk (Kd.C_below (zC HR599.out) hb)
     have n5_ := zF HB hb
     clear HO_6
     clear HO588
     clear HR592
     clear HR599
     clear HB
     have HO_6 := n0_
     have HO588 := n1_
     have HO595 := n2_
     have HR592 := n3_
     have HR599 := n4_
     have HB := n5_
     clear n0_ n1_ n2_ n3_ n4_ n5_
     (try clear hb)
     (try clear hb2)
     (try clear hk)
     (try clear hi)
     (try clear ho0)
     refine hK.out _ _ trivial (fun hHeld => ?_)
     clear hK K
     refine zM 32 ?_
     refine one_ (i := 12) (N := some 39) #[true, true, true, true, true, true, true, true, true, true, true, true, true, false] rfl rfl (one_of HT_.out (by kernel_rfl)) (by decide) (fun K hK => ?_)
     refine Kd.R_append_rows_step (Kd.int .i64) (w0 := w) w.heap.size (by rfl) (.tmp 32) (.tmp 38) 22 3 (.int .i64 0) 8 rfl Try.underlying22 info3 rfl (by decide) (by omega) v594 t593 y596 _ _ _ (fun k_ => some k_ ≠ (.slice (some ad585) x6_1.length co21 : Value).ownBlock ∧ some k_ ≠ (v587 : Value).ownBlock) (fun _ => False) rfl rfl ?aO ?aR (fun _ _ h => h) (fun _ h => h.elim) ?aF ?aB ?aS ?aL ?_
     (case aR => exact zC HR599.out)
     (case aB => exact (zB HB))
     (case aF => exact (fun k_ hk => ⟨Kd.fresh' (Kd.R_lt (zR HO_6)) k_ hk, Kd.fresh' (Kd.R_lt (zR HO588)) k_ hk⟩))
     (case aO => exact (by (with_reducible repeat (first | apply zs | apply zr | apply zt)); exact Kd.R_mono HO595.out (fun _ hk => ⟨hk.1.2, hk.2⟩)))
     (case aS => exact (below_size (zB HB)))
     (case aL => have := LMc20.out; omega)
     intro v601 w27 ho hb hg hat
     rw [← Ny600.out] at ho
     have n0_ := zk (Kd.R_after (ok := (fun k_ => some k_ ≠ (v587 : Value).ownBlock)) (by (with_reducible repeat (first | apply zs | apply zr | apply zt)); first | exact Kd.R_mono HO_6.out (fun _ hk => ⟨hk.1.2, hk.2⟩) | exact Kd.R_mono HO_6.out (fun k_ hk => by (have own_ : ∀ (A : Option Addr) (n c : Nat), (Value.slice A n c).ownBlock = A.map Addr.block := fun A n c => by cases A <;> rfl); simp only [own_] at hk ⊢; exact ⟨hk.1.2, hk.2⟩)) hg hat)
     have n1_ := zk (Kd.R_after (ok := (fun k_ => some k_ ≠ (.slice (some ad585) x6_1.length co21 : Value).ownBlock)) (zR HO588) hg hat)
     have n2_ := zk (hb)
     have n3_ := zk ((show Kd.C (Kd.int .i64) w27 (some ad585) y589.length y589 from by rw [Ny589.out]; exact Kd.C_take (m := ((ji10) : Int).toNat) ((Kd.R_reads' (Kd.R_after (ok := (fun k_ => some k_ ≠ (v587 : Value).ownBlock)) (by (with_reducible repeat (first | apply zs | apply zr | apply zt)); first | exact Kd.R_mono HO_6.out (fun _ hk => ⟨hk.1.2, hk.2⟩) | exact Kd.R_mono HO_6.out (fun k_ hk => by (have own_ : ∀ (A : Option Addr) (n c : Nat), (Value.slice A n c).ownBlock = A.map Addr.block := fun A n c => by cases A <;> rfl); simp only [own_] at hk ⊢; exact ⟨hk.1.2, hk.2⟩)) hg hat)).2.2) KL24.out))
     have n4_ := zk ((show Kd.C (Kd.int .i64) w27 A25 y596.length y596 from by rw [Ny596.out, KA25.out]; exact Kd.C_drop (m := ((ji17) : Int).toNat) (c := co21) ((Kd.R_reads' (Kd.R_after (ok := (fun k_ => some k_ ≠ (v587 : Value).ownBlock)) (by (with_reducible repeat (first | apply zs | apply zr | apply zt)); first | exact Kd.R_mono HO_6.out (fun _ hk => ⟨hk.1.2, hk.2⟩) | exact Kd.R_mono HO_6.out (fun k_ hk => by (have own_ : ∀ (A : Option Addr) (n c : Nat), (Value.slice A n c).ownBlock = A.map Addr.block := fun A n c => by cases A <;> rfl); simp only [own_] at hk ⊢; exact ⟨hk.1.2, hk.2⟩)) hg hat)).2.2) KL25.out ((Kd.R_reads' (Kd.R_after (ok := (fun k_ => some k_ ≠ (v587 : Value).ownBlock)) (by (with_reducible repeat (first | apply zs | apply zr | apply zt)); first | exact Kd.R_mono HO_6.out (fun _ hk => ⟨hk.1.2, hk.2⟩) | exact Kd.R_mono HO_6.out (fun k_ hk => by (have own_ : ∀ (A : Option Addr) (n c : Nat), (Value.slice A n c).ownBlock = A.map Addr.block := fun A n c => by cases A <;> rfl); simp only [own_] at hk ⊢; exact ⟨hk.1.2, hk.2⟩)) hg hat)).2.1)))
     have n5_ := zk (ho)
     clear HO_6
     clear HO588
     clear HB
     clear HR592
     clear HR599
     clear HO595
     have HO_6 := n0_
     have HO588 := n1_
     have HB := n2_
     have HR592 := n3_
     have HR599 := n4_
     have HO602 := n5_
     clear n0_ n1_ n2_ n3_ n4_ n5_
     clear ho hb hg hat
     refine hK.out _ _ trivial (fun hHeld => ?_)
     clear hK K
     refine zM 39 ?_
     refine pure_ (i := 13) (N := some 6) (v := ?_) (a' := ?_) #[true, true, true, true, true, true, true, true, true, true, true, true, true, true] rfl rfl (any_of HT_.out (by kernel_rfl)) (fun _ _ _ h => h) (Or.inl ⟨by rfl, ?_⟩) ?_ ?_
     rotate_left
     · intro w'
       go_simp
       with_reducible rfl
     rotate_left
     · exact zQ
     refine done_ (done_of HT_.out (by kernel_rfl)) ?_
     try go_wp2
     go_roundg k1
     case measure => have := HK1.out; omega
     case rel => exact ⟨(Int.tmod x1_1 t584), (y586), (y600), (by first | rfl | (simp; done) | (simp [*]; done)), H', ⟨by have := HK1.out; omega⟩, ⟨by (with_reducible repeat (first | apply zs | apply zr | apply zt)); exact Kd.R_mono HO588.out (fun _ hk => hk.2)⟩, ⟨by (with_reducible repeat (first | apply zs | apply zr | apply zt)); exact Kd.R_mono HO602.out (fun _ hk => hk.2)⟩, ⟨by repeat (first | exact HB.out | apply za | apply zd | apply ze)⟩⟩
   rw [if_pos c9] at H
   exact absurd H (by simp)

/-! ### spec_l2Orders: function 178 -/
def spec_l2Orders.l0 : Nat → Int → List (List Int) → Int → Option ((List (List Int)))
 | 0, _, _, _ => none
 | k + 1, x0, x3, x4 => (spec_l2Ways.f k x0).bind fun t606 => (if x4 < t606 then ((spec_l2At.f k x0 x4).bind fun t607 => (if x3.length < 5864062014805 then (spec_l2Orders.l0 k x0 (x3 ++ [t607]) (wrap64 (x4 + 1))) else (none))) else (some x3))
def spec_l2Orders.f (k : Nat) (a0 : Int) : Option ((List (List Int))) := spec_l2Orders.l0 k a0 (([] : List (List Int))) 0
set_option maxHeartbeats 8000000 in
set_option maxRecDepth 100000 in
theorem spec_l2Orders.calls (k : Nat) (a0 : Int) (r : List (List Int)) (w : World) (h : spec_l2Orders.f k a0 = some r) :
 Calls Try.prog 178 #[.int .i64 a0] w fun e w' => ∃ v0_ : Value, e = .returned (v0_) ∧ Kd.S (Kd.slice 3 (Kd.int .i64)) 22 w' w.heap.size (fun _ => True) v0_ r ∧ Below w.heap.size w w' := by
 have HB := zk (Below.refl w.heap.size w)
 have H : (spec_l2Orders.l0 k a0 (([] : List (List Int))) 0) = some r := h
 clear h
 obtain ⟨y603, hy603⟩ : ∃ y_ : List (List Int), y_ = (([] : List (List Int))) := ⟨_, rfl⟩
 replace H : (spec_l2Orders.l0 k a0 y603 0) = some r := by first | (rw [hy603]; with_reducible exact H) | (have H2_ := (Option.bind_some _ _).symm.trans H; rw [hy603]; with_reducible exact H2_) | (have H2_ := (Option.bind_some _ _).symm.trans H; with_reducible exact H2_) | with_reducible exact H | (rw [hy603]; exact H) | exact H
 have Ny603 := zk hy603
 clear hy603
 have H' := zk H
 clear H
 go_enter Try.func178, Try.ntmps178
 go_wp2_with (first | ((with_reducible refine gate_dst (N := 5) rfl ?_); refine Kd.S_lit (Kd.slice 3 (Kd.int .i64)) _ 22 ?hg (N := 5) ?hd (xs := ([] : List (List Int))) (inner := []) (ok := fun _ => True) (okp := fun _ => True) ?hr ?hp (fun _ hk => hk) trivial (Below.refl _ _) (Nat.le_refl _) (by simp) ?_; (case hd => rfl); (case hg => rfl); (case hr => first | (go_simp; done) | (go_simp; rfl)); (case hp => exact (Reps.none _ _)); intro v604 w2 ho3 hb hg_ hnew_; clear hg_ hnew_; (first | rw [← Ny603.out] at ho3 | (simp only [Int.reduceToNat] at ho3; rw [← Ny603.out] at ho3)); have HO605 := zk (Kd.S_lower ho3 (below_size (zB HB))); replace HB := zF HB hb; clear hb ho3))
 go_loopg [3, 4] k (fun kq v3 v4 w' => ∃ (x3_1 : List (List Int)) (x4_1 : Int), v4 = .int .i64 x4_1 ∧ Aside0 (spec_l2Orders.l0 kq a0 x3_1 x4_1 = some r) ∧ Aside0 (kq ≤ k) ∧ Aside0 (Kd.S (Kd.slice 3 (Kd.int .i64)) 22 w' w.heap.size (fun _ => True) v3 x3_1) ∧ Aside0 (Below w.heap.size w w'))
 case atStart => exact ⟨(y603), (0), (by first | rfl | (simp; done) | (simp [*]; done)), H', ⟨Nat.le_refl _⟩, ⟨by (with_reducible repeat (first | apply Kd.S_alloc | apply Kd.S_drewN | apply Kd.S_drew)); exact HO605.out⟩, ⟨by repeat (first | exact HB.out | apply za | apply zd | apply ze)⟩⟩
 case round =>
  clear H'
  try clear c1
  try clear p2
  obtain ⟨x3_1, x4_1, rfl, HA, HK1, HO_3, HB⟩ := hrel
  cases gk with
  | zero => exact absurd HA.out (by simp [spec_l2Orders.l0])
  | succ k1 =>
   have H := HA.out
   clear HA
   simp only [spec_l2Orders.l0] at H
   replace H := Option.bind_eq_some_iff.mp H
   obtain ⟨t606, A40, H⟩ := H
   try dsimp only at H
   have A4 := zk A40
   clear A40
   by_cases c5 : x4_1 < t606
   rotate_left
   · rw [if_neg c5] at H
     have c5b0 := decide_eq_false c5
     clear c5
     obtain rfl := Option.some.inj H
     go_wp2_with (first | ((with_reducible refine gate_callee (f := 193) rfl ?_); refine zG (some 8) Try.func193 #[.int .i64 a0] ?_; (with_reducible refine (spec_l2Ways.calls k1 a0 t606 _ A4.out).mono ?_); rintro e w' ⟨rfl, ⟨nd, rfl⟩⟩; refine ⟨_, rfl, ?_⟩))
     go_ret
     exact ⟨_, by first | rfl | (simp [errW_none, errW_some] <;> rfl) | (simp [*, errW_none, errW_some] <;> rfl), by (with_reducible repeat (first | apply Kd.S_alloc | apply Kd.S_drewN | apply Kd.S_drew)); exact HO_3.out, by repeat (first | exact HB.out | apply za | apply zd | apply ze)⟩
   rw [if_pos c5] at H
   have c5b0 := decide_eq_true c5
   clear c5
   replace H := Option.bind_eq_some_iff.mp H
   obtain ⟨t607, A60, H⟩ := H
   try dsimp only at H
   have A6 := zk A60
   clear A60
   by_cases c7 : x3_1.length < 5864062014805
   rotate_left
   · rw [if_neg c7] at H
     exact absurd H (by simp)
   rw [if_pos c7] at H
   have LMc7 := zk c7
   clear c7
   obtain ⟨y610, hy610⟩ : ∃ y_ : List (List Int), y_ = (x3_1 ++ [t607]) := ⟨_, rfl⟩
   replace H : (spec_l2Orders.l0 k1 a0 y610 (wrap64 (x4_1 + 1))) = some r := by first | (rw [hy610]; with_reducible exact H) | (have H2_ := (Option.bind_some _ _).symm.trans H; rw [hy610]; with_reducible exact H2_) | (have H2_ := (Option.bind_some _ _).symm.trans H; with_reducible exact H2_) | with_reducible exact H | (rw [hy610]; exact H) | exact H
   have Ny610 := zk hy610
   clear hy610
   have H' := zk H
   clear H
   go_wp2_with (first | ((with_reducible refine gate_callee (f := 193) rfl ?_); refine zG (some 8) Try.func193 #[.int .i64 a0] ?_; (with_reducible refine (spec_l2Ways.calls k1 a0 t606 _ A4.out).mono ?_); rintro e w' ⟨rfl, ⟨nd, rfl⟩⟩; refine ⟨_, rfl, ?_⟩) | ((with_reducible refine gate_callee (f := 191) rfl ?_); refine zG (some 15) Try.func191 #[.int .i64 a0, .int .i64 x4_1] ?_; (with_reducible refine (spec_l2At.calls k1 a0 x4_1 t607 _ A6.out).mono ?_); rintro e w8 ⟨v608, rfl, ho0, hb⟩; refine ⟨_, rfl, ?_⟩; have HO609 := zk (Kd.R_lower ho0 (below_size (zB HB))); replace HO_3 := zk (Kd.S_elder' (zS HO_3) (Kd.R_base ho0) hb); replace HB := zF HB hb; (try clear hb ho0); obtain ⟨Ao10, co10, eo10⟩ := Kd.R_slice HO609.out; subst eo10) | ((with_reducible refine gate_builtin (b := .append) (xs := #[.tmp 12, .tmp 16]) rfl ?_); at_builtin; refine Kd.S_append (Kd.slice 3 (Kd.int .i64)) (w0 := w) w.heap.size rfl (.tmp 12) (.tmp 16) 28 22 (.slice none 0 0) 24 rfl Try.underlying28 info22 rfl (by decide) (by omega) u3 x3_1 t607 [.slice Ao10 t607.length co10] (fun _ => True) (fun k_ => some k_ = (.slice Ao10 t607.length co10 : Value).ownBlock) rfl rfl ?aP (fun k_ hk_ => ((Kd.R_mono (ok' := fun k_ => ((fun _ => True)) k_ ∧ some k_ ≠ (u3 : Value).ownBlock) (Kd.R_apart' (HO609.out) (Kd.S_typed HO_3.out) (by decide)) (fun k_ hk => ⟨trivial, hk.2⟩))).1 k_ hk_.symm) ?aF ?aO ?aB ?aS ?aL ?_; (case aP => exact Kd.M_row (Kd.R_mono (Kd.R_tight rfl (Kd.R_mono (ok' := fun k_ => ((fun _ => True)) k_ ∧ some k_ ≠ (u3 : Value).ownBlock) (Kd.R_apart' (HO609.out) (Kd.S_typed HO_3.out) (by decide)) (fun k_ hk => ⟨trivial, hk.2⟩))) (fun _ h_ => h_))); (case aB => exact (zB HB)); (case aF => exact (fun _ _ => trivial)); (case aO => exact (by (with_reducible repeat (first | apply Kd.S_alloc | apply Kd.S_drewN | apply Kd.S_drew)); exact Kd.S_mono HO_3.out (fun k_ hk => ⟨trivial, fun e_ => hk.2 e_⟩))); (case aS => exact (below_size (zB HB))); (case aL => have := LMc7.out; omega); intro v611 w9 ho hb hg hat; rw [← Ny610.out] at ho; have HO612 := zk (ho); replace HB := zk (hb); clear HO_3 HO609; clear ho hb hg hat))
   go_roundg k1
   case measure => have := HK1.out; omega
   case rel => exact ⟨(y610), (wrap64 (x4_1 + 1)), (by first | rfl | (simp; done) | (simp [*]; done)), H', ⟨by have := HK1.out; omega⟩, ⟨by (with_reducible repeat (first | apply Kd.S_alloc | apply Kd.S_drewN | apply Kd.S_drew)); exact HO612.out⟩, ⟨by repeat (first | exact HB.out | apply za | apply zd | apply ze)⟩⟩

/-! ### spec_l3Choices: function 155 -/
mutual
def spec_l3Choices.j0 : Nat → List Int → Int → Int → List (List Int) → Int → Option ((List (List Int)))
 | 0, _, _, _, _, _ => none
 | k + 1, x0, x1, x2, x7, x8 => spec_l3Choices.l0 k x0 x1 x2 x7 x8
def spec_l3Choices.l0 : Nat → List Int → Int → Int → List (List Int) → Int → Option ((List (List Int)))
 | 0, _, _, _, _, _ => none
 | k + 1, x0, x1, x2, x7, x9 => if x9 < x1 then ((spec_l1Own.f x0).bind fun t620 => (if t620.length < 17592186044416 then ((spec_l3Choices.f k (t620 ++ [x9]) x1 x2).bind fun t626 => (if x7.length + t626.length < 5864062014805 then (spec_l3Choices.l0 k x0 x1 x2 (x7 ++ t626) (wrap64 (x9 + 1))) else (none))) else (none))) else (some x7)
def spec_l3Choices.f : Nat → List Int → Int → Int → Option ((List (List Int)))
 | 0, _, _, _ => none
 | k + 1, l0, a1, a2 => if (l0.length : Int) = a2 then (some (([l0] : List (List Int)))) else ((some (([] : List (List Int)) : List (List Int))).bind fun y616 => (if (l0.length : Int) > 0 then (if 0 ≤ (wrap64 ((l0.length : Int) - 1)) then (if (wrap64 ((l0.length : Int) - 1)) < (l0.length : Int) then (spec_l3Choices.j0 k l0 a1 a2 y616 (wrap64 ((rd l0 (wrap64 ((l0.length : Int) - 1))) + 1))) else (none)) else (none)) else (spec_l3Choices.j0 k l0 a1 a2 y616 0)))
end
set_option maxHeartbeats 8000000 in
set_option maxRecDepth 100000 in
theorem spec_l3Choices.calls (k : Nat) : ∀ (P0_ : Nat → Prop) (A0 : Option Addr) (c0 : Nat) (l0 : List Int) (a1 : Int) (a2 : Int) (r : List (List Int)) (w : World) (hs0 : Kd.V (Kd.int .i64) 3 w w.heap.size (fun k_ => P0_ k_) (.slice A0 l0.length c0) l0) (h : spec_l3Choices.f k l0 a1 a2 = some r),
 Calls Try.prog 155 #[.slice A0 l0.length c0, .int .i64 a1, .int .i64 a2] w fun e w' => ∃ v0_ : Value, e = .returned (v0_) ∧ Kd.N (Kd.slice 3 (Kd.int .i64)) 22 w' w.heap.size (fun k_ => (P0_ k_ ∨ w.heap.size ≤ k_)) v0_ r ∧ Below w.heap.size w w' := by
 induction k using Nat.strongRecOn with
 | _ k ih =>
 intro P0_ A0 c0 l0 a1 a2 r w hs0 h
 cases k with
 | zero => exact absurd h (by simp [spec_l3Choices.f])
 | succ k =>
 simp only [spec_l3Choices.f] at h
 have HO0 := zk (show Kd.V (Kd.int .i64) 3 w w.heap.size (fun k_ => (P0_ k_ ∨ w.heap.size ≤ k_)) (.slice A0 l0.length c0) l0 from Kd.V_mono hs0 (fun k_ hk => .inl hk))
 have HB := zk (Below.refl w.heap.size w)
 have H : (if (l0.length : Int) = a2 then (some (([l0] : List (List Int)))) else ((some (([] : List (List Int)) : List (List Int))).bind fun y616 => (if (l0.length : Int) > 0 then (if 0 ≤ (wrap64 ((l0.length : Int) - 1)) then (if (wrap64 ((l0.length : Int) - 1)) < (l0.length : Int) then (spec_l3Choices.j0 k l0 a1 a2 y616 (wrap64 ((rd l0 (wrap64 ((l0.length : Int) - 1))) + 1))) else (none)) else (none)) else (spec_l3Choices.j0 k l0 a1 a2 y616 0)))) = some r := h
 clear h
 by_cases c4 : (l0.length : Int) = a2
 rotate_left
 · rw [if_neg c4] at H
   have c4b0 : ((l0.length : Int) == a2) = false := beq_eq_false_iff_ne.mpr c4
   have c4b1 : ((l0.length : Int) != a2) = true := bne_iff_ne.mpr c4
   obtain ⟨y616, hy616⟩ : ∃ y_ : List (List Int), y_ = (([] : List (List Int))) := ⟨_, rfl⟩
   replace H : (if (l0.length : Int) > 0 then (if 0 ≤ (wrap64 ((l0.length : Int) - 1)) then (if (wrap64 ((l0.length : Int) - 1)) < (l0.length : Int) then (spec_l3Choices.j0 k l0 a1 a2 y616 (wrap64 ((rd l0 (wrap64 ((l0.length : Int) - 1))) + 1))) else (none)) else (none)) else (spec_l3Choices.j0 k l0 a1 a2 y616 0)) = some r := by first | (rw [hy616]; with_reducible exact H) | (have H2_ := (Option.bind_some _ _).symm.trans H; rw [hy616]; with_reducible exact H2_) | (have H2_ := (Option.bind_some _ _).symm.trans H; with_reducible exact H2_) | with_reducible exact H | (rw [hy616]; exact H) | exact H
   have Ny616 := zk hy616
   clear hy616
   have HC7 := zk H
   clear H
   go_enter Try.func155, Try.ntmps155
   go_upto_if 19 with (first | ((with_reducible refine gate_dst (N := 16) rfl ?_); refine Kd.N_lit (Kd.slice 3 (Kd.int .i64)) _ 22 ?hg (N' := 16) ?hd (xs := ([] : List (List Int))) (inner := []) (ok := (fun k_ => (P0_ k_ ∨ w.heap.size ≤ k_))) (okp := (fun k_ => (P0_ k_ ∨ w.heap.size ≤ k_))) ?hr ?hp (fun _ hk => hk) ((show ∀ k_, w.heap.size ≤ k_ → (fun k_ => (P0_ k_ ∨ w.heap.size ≤ k_)) k_ from fun k_ hk => (.inr (Nat.le_trans (below_size (zB HB)) hk))) _ (Nat.le_refl _)) (Below.refl _ _) (Nat.le_refl _) (by simp) ?_; (case hd => rfl); (case hg => rfl); (case hr => first | (go_simp; done) | (go_simp; rfl)); (case hp => exact (Reps.none _ _)); intro v617 w8 ho9 hb hg_ hnew_; clear hg_ hnew_; (first | rw [← Ny616.out] at ho9 | (simp only [Int.reduceToNat] at ho9; rw [← Ny616.out] at ho9)); have HO618 := zk (Kd.N_lower ho9 (below_size (zB HB))); replace HO0 := zk (Kd.V_elder' (zV HO0) (by first | exact Kd.N_base ho9 | exact Kd.S_base ho9 | exact Kd.R_base ho9) hb); replace HB := zF HB hb; clear hb ho9))
   (try simp only [Act.put, List.setIfInBounds_toArray, List.set_cons_zero, List.set_cons_succ])
   go_cut [8] (fun v8 wc => ∃ (kq : Nat) (x8_6 : Int), v8 = .int .i64 x8_6 ∧ Aside0 (spec_l3Choices.j0 kq l0 a1 a2 y616 x8_6 = some r) ∧ Aside0 (kq ≤ k) ∧ Aside0 (Kd.V (Kd.int .i64) 3 wc w.heap.size (fun k_ => (P0_ k_ ∨ w.heap.size ≤ k_) ∧ some k_ ≠ (v617 : Value).ownBlock) (.slice A0 l0.length c0) l0) ∧ Aside0 (Kd.N (Kd.slice 3 (Kd.int .i64)) 22 wc w.heap.size (fun k_ => (P0_ k_ ∨ w.heap.size ≤ k_)) v617 y616) ∧ Aside0 (Below w.heap.size w wc))
   case first =>
    have H := HC7.out
    clear HC7
    by_cases c10 : (l0.length : Int) > 0
    rotate_left
    · rw [if_neg c10] at H
      have c10b0 := decide_eq_false c10
      have c10b1 : decide (0 < l0.length) = false := decide_eq_false (by omega)
      have c10b9 : ¬ (0 < l0.length) := by omega
      clear c10
      (first | rw [c10b0] | (simp only [i64_w, i32_w]; rw [c10b0]) | skip)
      have H' := zk H
      clear H
      go_wp2
      go_meet
      case rel => exact ⟨_, (0), (by first | rfl | (simp; done) | (simp [*]; done)), H', ⟨by first | omega | exact Nat.le_refl _⟩, ⟨by (with_reducible repeat (first | apply Kd.V_alloc | apply Kd.V_drewN | apply Kd.V_drew)); exact HO0.out⟩, ⟨by (with_reducible repeat (first | apply Kd.N_alloc | apply Kd.N_drewN | apply Kd.N_drew)); exact HO618.out⟩, ⟨by repeat (first | exact HB.out | apply za | apply zd | apply ze)⟩⟩
    rw [if_pos c10] at H
    have c10b0 := decide_eq_true c10
    have c10b1 : decide (0 < l0.length) = true := decide_eq_true (by omega)
    have c10b9 : (0 < l0.length) := by omega
    clear c10
    (first | rw [c10b0] | (simp only [i64_w, i32_w]; rw [c10b0]) | skip)
    obtain ⟨ji11, hji11⟩ : ∃ j_ : Int, (wrap64 ((l0.length : Int) - 1)) = j_ := ⟨_, rfl⟩
    replace H : (if 0 ≤ (ji11) then (if (ji11) < (l0.length : Int) then (spec_l3Choices.j0 k l0 a1 a2 y616 (wrap64 ((rd l0 (ji11)) + 1))) else (none)) else (none)) = some r := by first | (rw [hji11] at H; exact H) | (simp only [hji11] at H ⊢; exact H)
    have hji11w : (IntKind.i64.wrap ((l0.length : Int) - 1)) = ji11 := (i64_w _).trans hji11
    by_cases c12 : 0 ≤ (ji11)
    rotate_left
    · rw [if_neg c12] at H
      exact absurd H (by simp)
    rw [if_pos c12] at H
    have c12b0 := decide_eq_true c12
    clear c12
    by_cases c13 : (ji11) < (l0.length : Int)
    rotate_left
    · rw [if_neg c13] at H
      exact absurd H (by simp)
    rw [if_pos c13] at H
    have c13b0 := decide_eq_true c13
    clear c13
    have H' := zk H
    clear H
    have p619 : 0 ≤ ((ji11) : Int) := zo (by assumption)
    have q619 : (ji11) < (l0.length : Int) := zo (by assumption)
    obtain ⟨ad619, e619, hx619_0⟩ := Kd.at_int (Kd.V_reads' HO0.out).2.2 (ji11) p619 q619
    cases e619
    replace p619 := eq_true p619
    replace q619 := eq_true q619
    go_wp2
    go_meet
    case rel => exact ⟨_, (wrap64 ((rd l0 (ji11)) + 1)), (by first | rfl | (simp; done) | (simp only [← hji11] <;> (first | rfl | simp)) | (simp [*]; done)), H', ⟨by first | omega | exact Nat.le_refl _⟩, ⟨by (with_reducible repeat (first | apply Kd.V_alloc | apply Kd.V_drewN | apply Kd.V_drew)); exact HO0.out⟩, ⟨by (with_reducible repeat (first | apply Kd.N_alloc | apply Kd.N_drewN | apply Kd.N_drew)); exact HO618.out⟩, ⟨by repeat (first | exact HB.out | apply za | apply zd | apply ze)⟩⟩
   case rest =>
    clear HC7
    try clear c1
    try clear p2
    try clear c4
    try clear c4b0
    try clear c4b1
    try clear p6
    try clear q6
    try clear hx6
    try clear c10
    try clear c10b0
    try clear c10b1
    try clear c12
    try clear c12b0
    try clear c13
    try clear c13b0
    try clear hx619_0
    try clear p619
    try clear q619
    obtain ⟨kq, x8_6, rfl, HA, HJ6, HO_0, HO_7, HB⟩ := hcut
    cases kq with
    | zero => exact absurd HA.out (by simp [spec_l3Choices.j0])
    | succ kj6 =>
     have H := HA.out
     clear HA
     simp only [spec_l3Choices.j0] at H
     have H' := zk H
     clear H
     go_wp2
     go_loopg [7, 9] kj6 (fun kq v7 v9 w' => ∃ (x7_2 : List (List Int)) (x9_2 : Int), v9 = .int .i64 x9_2 ∧ Aside0 (spec_l3Choices.l0 kq l0 a1 a2 x7_2 x9_2 = some r) ∧ Aside0 (kq ≤ kj6) ∧ Aside0 (Kd.V (Kd.int .i64) 3 w' w.heap.size (fun k_ => (P0_ k_ ∨ w.heap.size ≤ k_) ∧ some k_ ≠ (v7 : Value).ownBlock) (.slice A0 l0.length c0) l0) ∧ Aside0 (Kd.N (Kd.slice 3 (Kd.int .i64)) 22 w' w.heap.size (fun k_ => (P0_ k_ ∨ w.heap.size ≤ k_)) v7 x7_2) ∧ Aside0 (Below w.heap.size w w'))
     case atStart => exact ⟨(y616), (x8_6), (by first | rfl | (simp; done) | (simp [*]; done)), H', ⟨Nat.le_refl _⟩, ⟨by (with_reducible repeat (first | apply Kd.V_alloc | apply Kd.V_drewN | apply Kd.V_drew)); exact HO_0.out⟩, ⟨by (with_reducible repeat (first | apply Kd.N_alloc | apply Kd.N_drewN | apply Kd.N_drew)); exact HO_7.out⟩, ⟨by repeat (first | exact HB.out | apply za | apply zd | apply ze)⟩⟩
     case round =>
      clear H'
      try clear c1
      try clear p2
      try clear c4
      try clear c4b0
      try clear c4b1
      try clear p6
      try clear q6
      try clear hx6
      try clear c10
      try clear c10b0
      try clear c10b1
      try clear c12
      try clear c12b0
      try clear c13
      try clear c13b0
      try clear hx619_0
      try clear p2
      try clear p6
      try clear p619
      try clear q6
      try clear q619
      obtain ⟨x7_2, x9_2, rfl, HA, HK2, HO_0, HO_7, HB⟩ := hrel
      cases gk with
      | zero => exact absurd HA.out (by simp [spec_l3Choices.l0])
      | succ k2 =>
       have H := HA.out
       clear HA
       simp only [spec_l3Choices.l0] at H
       by_cases c14 : x9_2 < a1
       rotate_left
       · rw [if_neg c14] at H
         have c14b0 := decide_eq_false c14
         clear c14
         obtain rfl := Option.some.inj H
         go_wp2
         go_ret
         exact ⟨_, by first | rfl | (simp [errW_none, errW_some] <;> rfl) | (simp [*, errW_none, errW_some] <;> rfl), by (with_reducible repeat (first | apply Kd.N_alloc | apply Kd.N_drewN | apply Kd.N_drew)); exact HO_7.out, by repeat (first | exact HB.out | apply za | apply zd | apply ze)⟩
       rw [if_pos c14] at H
       have c14b0 := decide_eq_true c14
       clear c14
       replace H := Option.bind_eq_some_iff.mp H
       obtain ⟨t620, A150, H⟩ := H
       try dsimp only at H
       have A15 := zk A150
       clear A150
       by_cases c16 : t620.length < 17592186044416
       rotate_left
       · rw [if_neg c16] at H
         exact absurd H (by simp)
       rw [if_pos c16] at H
       have LMc16 := zk c16
       clear c16
       obtain ⟨y623, hy623⟩ : ∃ y_ : List Int, y_ = (t620 ++ [x9_2]) := ⟨_, rfl⟩
       rw [← hy623] at H
       try rw [zO y623] at H
       try dsimp only at H
       have Ny623 := zk hy623
       clear hy623
       replace H := Option.bind_eq_some_iff.mp H
       obtain ⟨t626, A170, H⟩ := H
       try dsimp only at H
       have A17 := zk A170
       clear A170
       by_cases c18 : x7_2.length + t626.length < 5864062014805
       rotate_left
       · rw [if_neg c18] at H
         exact absurd H (by simp)
       rw [if_pos c18] at H
       have LMc18 := zk c18
       clear c18
       obtain ⟨y629, hy629⟩ : ∃ y_ : List (List Int), y_ = (x7_2 ++ t626) := ⟨_, rfl⟩
       replace H : (spec_l3Choices.l0 k2 l0 a1 a2 y629 (wrap64 (x9_2 + 1))) = some r := by first | (rw [hy629]; with_reducible exact H) | (have H2_ := (Option.bind_some _ _).symm.trans H; rw [hy629]; with_reducible exact H2_) | (have H2_ := (Option.bind_some _ _).symm.trans H; with_reducible exact H2_) | with_reducible exact H | (rw [hy629]; exact H) | exact H
       have Ny629 := zk hy629
       clear hy629
       have H' := zk H
       clear H
       go_wp2_with (first | ((with_reducible refine gate_callee (f := 169) rfl ?_); refine zG (some 35) Try.func169 #[.slice A0 l0.length c0] ?_; (with_reducible refine (spec_l1Own.calls _ _ l0 t620 _ ?side1 ?side2 A15.out).mono ?_); (case side1 => exact zC (Kd.V_reads' HO_0.out).2.2); (case side2 => exact (Kd.V_reads' HO_0.out).2.1); rintro e w19 ⟨v621, rfl, ho0, hb⟩; refine ⟨_, rfl, ?_⟩; have HO622 := zk (Kd.R_lower (Kd.R_newM (M := fun k_ => (w.heap.size ≤ k_)) ho0 (below_size (zB HB)) (fun k_ h_ => h_)) (below_size (zB HB))); replace HO_0 := zk (Kd.V_elder' (zV HO_0) (Kd.R_base ho0) hb); replace HO_7 := zEN HO_7 ho0 hb; replace HB := zF HB hb; (try clear hb ho0)) | ((with_reducible refine gate_builtin (b := .append) (xs := #[.tmp 35, .tmp 37]) rfl ?_); at_builtin; refine Kd.R_append (Kd.int .i64) (w0 := w) w.heap.size rfl (.tmp 35) (.tmp 37) 22 3 (.int .i64 0) 8 rfl Try.underlying22 info3 rfl (by decide) (by omega) v621 t620 x9_2 [.int .i64 x9_2] (fun k_ => (w.heap.size ≤ k_)) (fun _ => False) rfl rfl ?aP (fun _ hk => hk.elim) ?aF ?aO ?aB ?aS ?aL ?_; (case aP => exact rfl); (case aB => exact (zB HB)); (case aF => exact (fun k_ hk => (Nat.le_trans (below_size (zB HB)) hk))); (case aO => exact (by (with_reducible repeat (first | apply zs | apply zr | apply zt)); exact Kd.R_mono HO622.out (fun _ hk => hk.1))); (case aS => exact (below_size (zB HB))); (case aL => have := LMc16.out; omega); intro v624 w20 ho hb hg hat; rw [← Ny623.out] at ho; have HO625 := zk (ho); replace HO_0 := zk (Kd.V_afterv (ok := (fun k_ => (P0_ k_ ∨ w.heap.size ≤ k_) ∧ some k_ ≠ (u7 : Value).ownBlock)) (zV HO_0) hg hat); replace HO_7 := zk (Kd.N_afterv (ok := (fun k_ => (P0_ k_ ∨ w.heap.size ≤ k_))) (zN HO_7) hg hat); replace HB := zk (hb); clear HO622; clear ho hb hg hat; obtain ⟨Ao21, co21, eo21⟩ := Kd.R_slice HO625.out; subst eo21) | ((with_reducible refine gate_callee (f := 155) rfl ?_); refine zG (some 41) Try.func155 #[.slice Ao21 y623.length co21, .int .i64 a1, .int .i64 a2] ?_; (with_reducible refine (ih k2 (by have := HJ6.out; have := HK2.out; omega) (fun k_ => some k_ = (.slice Ao21 y623.length co21 : Value).ownBlock) _ _ y623 a1 a2 t626 _ ?side1 A17.out).mono ?_); (case side1 => exact Kd.R_V (Kd.R_tight rfl (Kd.R_apart' (HO625.out) (Kd.N_typed HO_7.out) (by decide)))); rintro e w22 ⟨v627, rfl, ho0, hb⟩; refine ⟨_, rfl, ?_⟩; have HO628 := zk (Kd.N_lower (Kd.N_mono (ok' := fun k_ => (P0_ k_ ∨ w.heap.size ≤ k_) ∧ some k_ ≠ (u7 : Value).ownBlock) ho0 (fun k_ hk_ => ⟨Or.elim hk_ (fun hs_ => (.inr (((Kd.R_apart' (HO625.out) (Kd.N_typed HO_7.out) (by decide)).1 k_ hs_.symm).1))) (fun hn_ => (.inr (Nat.le_trans (below_size (zB HB)) hn_))), Or.elim hk_ (fun hs_ => ((Kd.R_apart' (HO625.out) (Kd.N_typed HO_7.out) (by decide)).1 k_ hs_.symm).2) (fun hn_ => (Kd.fresh' (Kd.N_lt (zN HO_7)) k_ hn_))⟩)) (below_size (zB HB))); replace HO_0 := zk (Kd.V_elder' (zV HO_0) (by first | exact Kd.N_base ho0 | exact Kd.S_base ho0 | exact Kd.R_base ho0) hb); replace HO_7 := zk (Kd.N_elder' (zN HO_7) (by first | exact Kd.N_base ho0 | exact Kd.S_base ho0 | exact Kd.R_base ho0) hb); replace HO625 := zk (Kd.R_below (zR HO625) hb); replace HB := zF HB hb; (try clear hb ho0); obtain ⟨Ao24, co24, eo24⟩ := Kd.N_slice HO628.out; subst eo24) | ((with_reducible refine gate_builtin (b := .append) (xs := #[.tmp 33, .tmp 41]) rfl ?_); at_builtin; refine Kd.N_append_rows (Kd.slice 3 (Kd.int .i64)) (w0 := w) w.heap.size rfl (.tmp 33) (.tmp 41) 28 22 (.slice none 0 0) 24 rfl Try.underlying28 info22 rfl (by decide) (by omega) u7 x7_2 t626 _ _ _ (fun k_ => (P0_ k_ ∨ w.heap.size ≤ k_)) (fun k_ => ((fun k_ => (P0_ k_ ∨ w.heap.size ≤ k_))) k_ ∧ some k_ ≠ (u7 : Value).ownBlock) rfl rfl ?aO ?aR (fun _ hk => hk) ?aF ?aB ?aS ?aL ?_; (case aR => exact (by skip; exact Kd.N_F (Kd.N_mono (ok' := (fun k_ => ((fun k_ => (P0_ k_ ∨ w.heap.size ≤ k_))) k_ ∧ some k_ ≠ (u7 : Value).ownBlock)) (HO628.out) (fun k_ hk => ⟨hk.1, hk.2⟩)))); (case aB => exact (zB HB)); (case aF => exact (fun k_ hk => (.inr (Nat.le_trans (below_size (zB HB)) hk)))); (case aO => exact (by (with_reducible repeat (first | apply Kd.N_alloc | apply Kd.N_drewN | apply Kd.N_drew)); exact Kd.N_mono HO_7.out (fun _ hk => hk.1.1))); (case aS => exact (below_size (zB HB))); (case aL => have := LMc18.out; omega); intro v630 w23 ho hb hg hat; rw [← Ny629.out] at ho; have HO631 := zk (ho); replace HO_0 := zk (Kd.V_afterv (ok := (fun k_ => (P0_ k_ ∨ w.heap.size ≤ k_) ∧ some k_ ≠ (.slice Ao21 y623.length co21 : Value).ownBlock ∧ some k_ ≠ (.slice Ao24 t626.length co24 : Value).ownBlock)) (by (with_reducible repeat (first | apply Kd.V_alloc | apply Kd.V_drewN | apply Kd.V_drew)); first | exact Kd.V_mono HO_0.out (fun _ hk => ⟨⟨hk.1.1.1, ⟨hk.1.2, hk.2⟩⟩, hk.1.1.2⟩) | exact Kd.V_mono HO_0.out (fun k_ hk => by (have own_ : ∀ (A : Option Addr) (n c : Nat), (Value.slice A n c).ownBlock = A.map Addr.block := fun A n c => by cases A <;> rfl); simp only [own_] at hk ⊢; exact ⟨⟨hk.1.1.1, ⟨hk.1.2, hk.2⟩⟩, hk.1.1.2⟩)) hg hat); replace HO625 := zk (Kd.R_over' (zR HO625) (Kd.N_typed (zN HO_7)) (by decide) hg); replace HO628 := zk (Kd.N_afterv (ok := (fun k_ => (P0_ k_ ∨ w.heap.size ≤ k_))) (zN HO628) hg hat); replace HB := zk (hb); clear HO_7; clear ho hb hg hat))
       go_roundg k2
       case measure => have := HJ6.out; have := HK2.out; omega
       case rel => exact ⟨(y629), (wrap64 (x9_2 + 1)), (by first | rfl | (simp; done) | (simp [*]; done)), H', ⟨by have := HJ6.out; have := HK2.out; omega⟩, ⟨by (with_reducible repeat (first | apply Kd.V_alloc | apply Kd.V_drewN | apply Kd.V_drew)); exact Kd.V_mono HO_0.out (fun _ hk => ⟨hk.1.1, hk.2⟩)⟩, ⟨by (with_reducible repeat (first | apply Kd.N_alloc | apply Kd.N_drewN | apply Kd.N_drew)); exact HO631.out⟩, ⟨by repeat (first | exact HB.out | apply za | apply zd | apply ze)⟩⟩
 rw [if_pos c4] at H
 have c4b0 : ((l0.length : Int) == a2) = true := beq_iff_eq.mpr c4
 have c4b1 : ((l0.length : Int) != a2) = false := bne_eq_false_iff_eq.mpr c4
 clear c4
 obtain ⟨y613, hy613⟩ : ∃ y_ : List (List Int), y_ = (([l0] : List (List Int))) := ⟨_, rfl⟩
 replace H : (some y613) = some r := by first | (rw [hy613]; with_reducible exact H) | (have H2_ := (Option.bind_some _ _).symm.trans H; rw [hy613]; with_reducible exact H2_) | (have H2_ := (Option.bind_some _ _).symm.trans H; with_reducible exact H2_) | with_reducible exact H | (rw [hy613]; exact H) | exact H
 have Ny613 := zk hy613
 clear hy613
 obtain rfl := Option.some.inj H
 go_enter Try.func155, Try.ntmps155
 go_wp2_with (first | ((with_reducible refine gate_dst (N := 15) rfl ?_); refine Kd.N_lit (Kd.slice 3 (Kd.int .i64)) _ 22 ?hg (N' := 15) ?hd (xs := ([l0] : List (List Int))) (inner := [.slice A0 l0.length c0]) (ok := (fun k_ => (P0_ k_ ∨ w.heap.size ≤ k_))) (okp := (fun k_ => (P0_ k_ ∨ w.heap.size ≤ k_))) ?hr ?hp (fun _ hk => hk) ((show ∀ k_, w.heap.size ≤ k_ → (fun k_ => (P0_ k_ ∨ w.heap.size ≤ k_)) k_ from fun k_ hk => (.inr (Nat.le_trans (below_size (zB HB)) hk))) _ (Nat.le_refl _)) (Below.refl _ _) (Nat.le_refl _) (by simp) ?_; (case hd => rfl); (case hg => rfl); (case hr => first | (go_simp; done) | (go_simp; rfl)); (case hp => exact (Reps.one (show Kd.FK (Kd.slice 3 (Kd.int .i64)) _ _ l0 [.slice A0 l0.length c0] from (Kd.FK_slice_mk (Kd.V_reads' (Kd.V_mono (ok' := (fun k_ => (P0_ k_ ∨ w.heap.size ≤ k_))) (HO0.out) (fun k_ hk => hk))).2.1 (Kd.V_F (by (with_reducible repeat (first | apply Kd.V_alloc | apply Kd.V_drewN | apply Kd.V_drew)); exact Kd.V_mono (ok' := (fun k_ => (P0_ k_ ∨ w.heap.size ≤ k_))) (HO0.out) (fun k_ hk => hk))))) (Reps.none _ _))); intro v614 w5 ho6 hb hg_ hnew_; clear hg_ hnew_; (first | rw [← Ny613.out] at ho6 | (simp only [Int.reduceToNat] at ho6; rw [← Ny613.out] at ho6)); have HO615 := zk (Kd.N_lower ho6 (below_size (zB HB))); replace HO0 := zk (Kd.V_elder' (zV HO0) (by first | exact Kd.N_base ho6 | exact Kd.S_base ho6 | exact Kd.R_base ho6) hb); replace HB := zF HB hb; clear hb ho6))
 go_ret
 exact ⟨_, by first | rfl | (simp [errW_none, errW_some] <;> rfl) | (simp [*, errW_none, errW_some] <;> rfl), by (with_reducible repeat (first | apply Kd.N_alloc | apply Kd.N_drewN | apply Kd.N_drew)); exact HO615.out, by repeat (first | exact HB.out | apply za | apply zd | apply ze)⟩

end Go.Proofs.Ytlkddcabjcejdaa.MFnAvoiding
