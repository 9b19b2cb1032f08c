/- Functions that FnAvoiding comes to, a walk for each: by wip/tools/mk.py and post.py. No condition. -/
import Derived.Test.YtlkddcabjcejdaaMFnAvoidingx0
import Derived.Test.YtlkddcabjcejdaaMFnAvoidingx6
import Derived.Test.YtlkddcabjcejdaaMFnAvoidingx7
import Derived.Test.YtlkddcabjcejdaaMFnAvoidingx13
namespace Go.Proofs.Ytlkddcabjcejdaa.MFnAvoiding
open Go.RowKit Go.Proofs.YtlkddcabjcejdaaW.PrintWords Go.Proofs.YtlkddcabjcejdaaW.PrintLast Go.Proofs.YtlkddcabjcejdaaW.PrintMore
attribute [local go_sem] max2_int min2_int max_two min_two max_three min_three max_four min_four
set_option linter.unusedVariables false
set_option linter.unusedSimpArgs false

/-! ### spec_l3At: function 157 -/
def spec_l3At.l0 : Nat → List Int → List Int → List Int → Int → Option (List Int)
 | 0, _, _, _, _ => none
 | k + 1, x0, x1, x5, x6 => if x6 < (x1.length : Int) then (if 0 ≤ x6 then (if 0 ≤ (rd x1 x6) then (if (rd x1 x6) < (x0.length : Int) then (if x5.length < 17592186044416 then (spec_l3At.l0 k x0 x1 (x5 ++ [rd x0 (rd x1 x6)]) (wrap64 (x6 + 1))) else (none)) else (none)) else (none)) else (none)) else (some x5)
def spec_l3At.f (k : Nat) (l0 : List Int) (l1 : List Int) : Option (List Int) := spec_l3At.l0 k l0 l1 (([] : List Int)) 0
set_option maxHeartbeats 8000000 in
set_option maxRecDepth 100000 in
theorem spec_l3At.calls (k : Nat) (A0 : Option Addr) (c0 : Nat) (l0 : List Int) (A1 : Option Addr) (c1 : Nat) (l1 : List Int) (r : List Int) (w : World) (hr0 : Kd.C (Kd.int .i64) w A0 l0.length l0) (hc0 : l0.length ≤ c0) (hr1 : Kd.C (Kd.int .i64) w A1 l1.length l1) (hc1 : l1.length ≤ c1) (h : spec_l3At.f k l0 l1 = some r) :
 Calls Try.prog 157 #[.slice A0 l0.length c0, .slice A1 l1.length c1] w fun e w' => ∃ v0_ : Value, e = .returned (v0_) ∧ Kd.R (Kd.int .i64) 3 w' w.heap.size (fun _ => True) v0_ r ∧ Below w.heap.size w w' := by
 have HR0 := zk hr0
 have HC0 := zk hc0
 clear hr0 hc0
 have HR1 := zk hr1
 have HC1 := zk hc1
 clear hr1 hc1
 have HB := zk (Below.refl w.heap.size w)
 have H : (spec_l3At.l0 k l0 l1 (([] : List Int)) 0) = some r := h
 clear h
 obtain ⟨y632, hy632⟩ : ∃ y_ : List Int, y_ = (([] : List Int)) := ⟨_, rfl⟩
 replace H : (spec_l3At.l0 k l0 l1 y632 0) = some r := by first | (rw [hy632]; with_reducible exact H) | (have H2_ := (Option.bind_some _ _).symm.trans H; rw [hy632]; with_reducible exact H2_) | (have H2_ := (Option.bind_some _ _).symm.trans H; with_reducible exact H2_) | with_reducible exact H | (rw [hy632]; exact H) | exact H
 have Ny632 := zk hy632
 clear hy632
 have H' := zk H
 clear H
 go_enter Try.func157, Try.ntmps157
 go_wp2_with (first | ((with_reducible refine gate_dst (N := 7) rfl ?_); refine zL 7 3 [] (Below.refl _ _) (Nat.le_refl _) ?_; intro v633 w3 ho4 hb hg_ hnew_; clear hg_ hnew_; (first | rw [← Ny632.out] at ho4 | (simp only [Int.reduceToNat] at ho4; rw [← Ny632.out] at ho4)); have HO634 := zk (Kd.R_lower ho4 (below_size (zB HB))); replace HB := zF HB hb; clear hb ho4))
 go_loopg [5, 6] k (fun kq v5 v6 w' => ∃ (x5_1 : List Int) (x6_1 : Int), v6 = .int .i64 x6_1 ∧ Aside0 (spec_l3At.l0 kq l0 l1 x5_1 x6_1 = some r) ∧ Aside0 (kq ≤ k) ∧ Aside0 (Kd.R (Kd.int .i64) 3 w' w.heap.size (fun _ => True) v5 x5_1) ∧ Aside0 (Below w.heap.size w w'))
 case atStart => exact ⟨(y632), (0), (by first | rfl | (simp; done) | (simp [*]; done)), H', ⟨Nat.le_refl _⟩, ⟨by (with_reducible repeat (first | apply zs | apply zr | apply zt)); exact HO634.out⟩, ⟨by repeat (first | exact HB.out | apply za | apply zd | apply ze)⟩⟩
 case round =>
  clear H'
  try clear c1
  try clear p2
  obtain ⟨x5_1, x6_1, rfl, HA, HK1, HO_5, HB⟩ := hrel
  cases gk with
  | zero => exact absurd HA.out (by simp [spec_l3At.l0])
  | succ k1 =>
   have H := HA.out
   clear HA
   simp only [spec_l3At.l0] at H
   by_cases c5 : x6_1 < (l1.length : Int)
   rotate_left
   · rw [if_neg c5] at H
     have c5b0 := decide_eq_false c5
     clear c5
     obtain rfl := Option.some.inj H
     go_wp2
     go_ret
     exact ⟨_, by first | rfl | (simp [errW_none, errW_some] <;> rfl) | (simp [*, errW_none, errW_some] <;> rfl), by (with_reducible repeat (first | apply zs | apply zr | apply zt)); exact HO_5.out, by repeat (first | exact HB.out | apply za | apply zd | apply ze)⟩
   rw [if_pos c5] at H
   have c5b0 := decide_eq_true c5
   clear c5
   by_cases c6 : 0 ≤ x6_1
   rotate_left
   · rw [if_neg c6] at H
     exact absurd H (by simp)
   rw [if_pos c6] at H
   have c6b0 := decide_eq_true c6
   clear c6
   by_cases c7 : 0 ≤ (rd l1 x6_1)
   rotate_left
   · rw [if_neg c7] at H
     exact absurd H (by simp)
   rw [if_pos c7] at H
   have c7b0 := decide_eq_true c7
   clear c7
   by_cases c8 : (rd l1 x6_1) < (l0.length : Int)
   rotate_left
   · rw [if_neg c8] at H
     exact absurd H (by simp)
   rw [if_pos c8] at H
   have c8b0 := decide_eq_true c8
   clear c8
   by_cases c9 : x5_1.length < 17592186044416
   rotate_left
   · rw [if_neg c9] at H
     exact absurd H (by simp)
   rw [if_pos c9] at H
   have LMc9 := zk c9
   clear c9
   obtain ⟨y637, hy637⟩ : ∃ y_ : List Int, y_ = (x5_1 ++ [rd l0 (rd l1 x6_1)]) := ⟨_, rfl⟩
   replace H : (spec_l3At.l0 k1 l0 l1 y637 (wrap64 (x6_1 + 1))) = some r := by first | (rw [hy637]; with_reducible exact H) | (have H2_ := (Option.bind_some _ _).symm.trans H; rw [hy637]; with_reducible exact H2_) | (have H2_ := (Option.bind_some _ _).symm.trans H; with_reducible exact H2_) | with_reducible exact H | (rw [hy637]; exact H) | exact H
   have Ny637 := zk hy637
   clear hy637
   have H' := zk H
   clear H
   have p635 : 0 ≤ (x6_1 : Int) := zo (by assumption)
   have q635 : x6_1 < (l1.length : Int) := zo (by assumption)
   obtain ⟨ad635, e635, hx635_0⟩ := Kd.at_int HR1.out x6_1 p635 q635
   cases e635
   replace hx635_0 := (HB.out.cell (World.block_lt_of_cell? w _ hx635_0)).trans hx635_0
   replace p635 := eq_true p635
   replace q635 := eq_true q635
   have p636 : 0 ≤ ((rd l1 x6_1) : Int) := zo (by assumption)
   have q636 : (rd l1 x6_1) < (l0.length : Int) := zo (by assumption)
   obtain ⟨ad636, e636, hx636_0⟩ := Kd.at_int HR0.out (rd l1 x6_1) p636 q636
   cases e636
   replace hx636_0 := (HB.out.cell (World.block_lt_of_cell? w _ hx636_0)).trans hx636_0
   replace p636 := eq_true p636
   replace q636 := eq_true q636
   go_wp2_with (first | ((with_reducible refine gate_builtin (b := .append) (xs := #[.tmp 14, .tmp 22]) rfl ?_); at_builtin; refine Kd.R_append (Kd.int .i64) (w0 := w) w.heap.size rfl (.tmp 14) (.tmp 22) 22 3 (.int .i64 0) 8 rfl Try.underlying22 info3 rfl (by decide) (by omega) u5 x5_1 (rd l0 (rd l1 x6_1)) [.int .i64 (rd l0 (rd l1 x6_1))] (fun _ => True) (fun _ => False) rfl rfl ?aP (fun _ hk => hk.elim) ?aF ?aO ?aB ?aS ?aL ?_; (case aP => exact rfl); (case aB => exact (zB HB)); (case aF => exact (fun _ _ => trivial)); (case aO => exact (zR HO_5)); (case aS => exact (below_size (zB HB))); (case aL => have := LMc9.out; omega); intro v638 w10 ho hb hg hat; rw [← Ny637.out] at ho; have HO639 := zk (ho); replace HB := zk (hb); clear HO_5; clear ho hb hg hat))
   go_roundg k1
   case measure => have := HK1.out; omega
   case rel => exact ⟨(y637), (wrap64 (x6_1 + 1)), (by first | rfl | (simp; done) | (simp [*]; done)), H', ⟨by have := HK1.out; omega⟩, ⟨by (with_reducible repeat (first | apply zs | apply zr | apply zt)); exact HO639.out⟩, ⟨by repeat (first | exact HB.out | apply za | apply zd | apply ze)⟩⟩

/-! ### spec_l3Places: function 235 -/
def spec_l3Places.l0 : Nat → List Int → List Int → List (List Int) → List (List Int) → Int → Option ((List (List Int)))
 | 0, _, _, _, _, _ => none
 | k + 1, x0, x1, x5, x6, x7 => if x7 < (x6.length : Int) then (if 0 ≤ x7 then ((spec_l3At.f k x0 (rd_L2 x6 x7)).bind fun t650 => ((spec_l3Shape.f k t650).bind fun t653 => ((spec_l1Same.f k t653 x1).bind fun t656 => (if t656 = true then (if x5.length < 5864062014805 then (spec_l3Places.l0 k x0 x1 (x5 ++ [rd_L2 x6 x7]) x6 (wrap64 (x7 + 1))) else (none)) else (spec_l3Places.l0 k x0 x1 x5 x6 (wrap64 (x7 + 1))))))) else (none)) else (some x5)
def spec_l3Places.f (k : Nat) (l0 : List Int) (l1 : List Int) : Option ((List (List Int))) := (spec_l3Choices.f k (([] : List Int)) (l0.length : Int) (l1.length : Int)).bind fun t646 => (spec_l3Places.l0 k l0 l1 (([] : List (List Int))) t646 0)
set_option maxHeartbeats 8000000 in
set_option maxRecDepth 100000 in
theorem spec_l3Places.calls (k : Nat) (A0 : Option Addr) (c0 : Nat) (l0 : List Int) (A1 : Option Addr) (c1 : Nat) (l1 : List Int) (r : List (List Int)) (w : World) (hr0 : Kd.C (Kd.int .i64) w A0 l0.length l0) (hc0 : l0.length ≤ c0) (hr1 : Kd.C (Kd.int .i64) w A1 l1.length l1) (hc1 : l1.length ≤ c1) (h : spec_l3Places.f k l0 l1 = some r) :
 Calls Try.prog 235 #[.slice A0 l0.length c0, .slice A1 l1.length c1] w fun e w' => ∃ v0_ : Value, e = .returned (v0_) ∧ Kd.N (Kd.slice 3 (Kd.int .i64)) 22 w' w.heap.size (fun k_ => (w.heap.size ≤ k_)) v0_ r ∧ Below w.heap.size w w' := by
 have HR0 := zk hr0
 have HC0 := zk hc0
 clear hr0 hc0
 have HR1 := zk hr1
 have HC1 := zk hc1
 clear hr1 hc1
 have HB := zk (Below.refl w.heap.size w)
 have H := h
 unfold spec_l3Places.f at H
 clear h
 obtain ⟨y640, hy640⟩ : ∃ y_ : List (List Int), y_ = (([] : List (List Int))) := ⟨_, rfl⟩
 replace H : ((spec_l3Choices.f k (([] : List Int)) (l0.length : Int) (l1.length : Int)).bind fun t646 => (spec_l3Places.l0 k l0 l1 y640 t646 0)) = some r := by first | (rw [hy640]; with_reducible exact H) | (have H2_ := (Option.bind_some _ _).symm.trans H; rw [hy640]; with_reducible exact H2_) | (have H2_ := (Option.bind_some _ _).symm.trans H; with_reducible exact H2_) | with_reducible exact H | (rw [hy640]; exact H) | exact H
 have Ny640 := zk hy640
 clear hy640
 obtain ⟨y643, hy643⟩ : ∃ y_ : List Int, y_ = (([] : List Int)) := ⟨_, rfl⟩
 replace H : ((spec_l3Choices.f k y643 (l0.length : Int) (l1.length : Int)).bind fun t646 => (spec_l3Places.l0 k l0 l1 y640 t646 0)) = some r := by first | (rw [hy643]; with_reducible exact H) | (have H2_ := (Option.bind_some _ _).symm.trans H; rw [hy643]; with_reducible exact H2_) | (have H2_ := (Option.bind_some _ _).symm.trans H; with_reducible exact H2_) | with_reducible exact H | (rw [hy643]; exact H) | exact H
 have Ny643 := zk hy643
 clear hy643
 replace H := Option.bind_eq_some_iff.mp H
 obtain ⟨t646, A30, H⟩ := H
 try dsimp only at H
 have A3 := zk A30
 clear A30
 have H' := zk H
 clear H
 go_enter Try.func235, Try.ntmps235
 go_wp2_with (first | ((with_reducible refine gate_dst (N := 8) rfl ?_); refine Kd.N_lit (Kd.slice 3 (Kd.int .i64)) _ 22 ?hg (N' := 8) ?hd (xs := ([] : List (List Int))) (inner := []) (ok := (fun k_ => (w.heap.size ≤ k_))) (okp := (fun k_ => (w.heap.size ≤ k_))) ?hr ?hp (fun _ hk => hk) ((show ∀ k_, w.heap.size ≤ k_ → (fun k_ => (w.heap.size ≤ k_)) k_ from fun k_ hk => (Nat.le_trans (below_size (zB HB)) hk)) _ (Nat.le_refl _)) (Below.refl _ _) (Nat.le_refl _) (by simp) ?_; (case hd => rfl); (case hg => rfl); (case hr => first | (go_simp; done) | (go_simp; rfl)); (case hp => exact (Reps.none _ _)); intro v641 w4 ho5 hb hg_ hnew_; clear hg_ hnew_; (first | rw [← Ny640.out] at ho5 | (simp only [Int.reduceToNat] at ho5; rw [← Ny640.out] at ho5)); have HO642 := zk (Kd.N_lower ho5 (below_size (zB HB))); replace HB := zF HB hb; clear hb ho5) | ((with_reducible refine gate_dst (N := 9) rfl ?_); refine zL 9 3 [] (Below.refl _ _) (Nat.le_refl _) ?_; intro v644 w6 ho7 hb hg_ hnew_; clear hg_ hnew_; (first | rw [← Ny643.out] at ho7 | (simp only [Int.reduceToNat] at ho7; rw [← Ny643.out] at ho7)); have HO645 := zk (Kd.R_lower (Kd.R_newM (M := fun k_ => (w.heap.size ≤ k_)) ho7 (below_size (zB HB)) (fun k_ h_ => h_)) (below_size (zB HB))); replace HO642 := zEN HO642 ho7 hb; replace HB := zF HB hb; clear hb ho7; obtain ⟨Ao8, co8, eo8⟩ := Kd.R_slice HO645.out; subst eo8) | ((with_reducible refine gate_callee (f := 155) rfl ?_); refine zG (some 14) Try.func155 #[.slice Ao8 y643.length co8, .int .i64 (l0.length : Int), .int .i64 (l1.length : Int)] ?_; (with_reducible refine (spec_l3Choices.calls k (fun k_ => some k_ = (.slice Ao8 y643.length co8 : Value).ownBlock) _ _ y643 (l0.length : Int) (l1.length : Int) t646 _ ?side1 A3.out).mono ?_); (case side1 => exact Kd.R_V (Kd.R_tight rfl (Kd.R_apart' (HO645.out) (Kd.N_typed HO642.out) (by decide)))); rintro e w9 ⟨v647, rfl, ho0, hb⟩; refine ⟨_, rfl, ?_⟩; have HO648 := zk (Kd.N_lower (Kd.N_mono (ok' := fun k_ => (w.heap.size ≤ k_) ∧ some k_ ≠ (v641 : Value).ownBlock) ho0 (fun k_ hk_ => ⟨Or.elim hk_ (fun hs_ => ((Kd.R_apart' (HO645.out) (Kd.N_typed HO642.out) (by decide)).1 k_ hs_.symm).1.1) (fun hn_ => (Nat.le_trans (below_size (zB HB)) hn_)), Or.elim hk_ (fun hs_ => ((Kd.R_apart' (HO645.out) (Kd.N_typed HO642.out) (by decide)).1 k_ hs_.symm).2) (fun hn_ => (Kd.fresh' (Kd.N_lt (zN HO642)) k_ hn_))⟩)) (below_size (zB HB))); replace HO642 := zk (Kd.N_elder' (zN HO642) (by first | exact Kd.N_base ho0 | exact Kd.S_base ho0 | exact Kd.R_base ho0) hb); replace HO645 := zk (Kd.R_below (zR HO645) hb); replace HB := zF HB hb; (try clear hb ho0)))
 go_loopg [5, 7] k (fun kq v5 v7 w' => ∃ (x5_1 : List (List Int)) (x7_1 : Int), v7 = .int .i64 x7_1 ∧ Aside0 (spec_l3Places.l0 kq l0 l1 x5_1 t646 x7_1 = some r) ∧ Aside0 (kq ≤ k) ∧ Aside0 (Kd.N (Kd.slice 3 (Kd.int .i64)) 22 w' w.heap.size (fun k_ => (w.heap.size ≤ k_) ∧ some k_ ≠ (v647 : Value).ownBlock) v5 x5_1) ∧ Aside0 (Kd.N (Kd.slice 3 (Kd.int .i64)) 22 w' w.heap.size (fun k_ => (w.heap.size ≤ k_) ∧ some k_ ≠ (v5 : Value).ownBlock) v647 t646) ∧ Aside0 (Below w.heap.size w w'))
 case atStart => exact ⟨(y640), (0), (by first | rfl | (simp; done) | (simp [*]; done)), H', ⟨Nat.le_refl _⟩, ⟨by (with_reducible repeat (first | apply Kd.N_alloc | apply Kd.N_drewN | apply Kd.N_drew)); exact Kd.N_mono HO642.out (fun _ hk => ⟨hk.1.1, hk.2⟩)⟩, ⟨by (with_reducible repeat (first | apply Kd.N_alloc | apply Kd.N_drewN | apply Kd.N_drew)); exact HO648.out⟩, ⟨by repeat (first | exact HB.out | apply za | apply zd | apply ze)⟩⟩
 case round =>
  clear H'
  try clear c1
  try clear c2
  try clear p2
  obtain ⟨x5_1, x7_1, rfl, HA, HK1, HO_5, HO_6, HB⟩ := hrel
  cases gk with
  | zero => exact absurd HA.out (by simp [spec_l3Places.l0])
  | succ k1 =>
   have H := HA.out
   clear HA
   simp only [spec_l3Places.l0] at H
   by_cases c10 : x7_1 < (t646.length : Int)
   rotate_left
   · rw [if_neg c10] at H
     have c10b0 := decide_eq_false c10
     clear c10
     obtain rfl := Option.some.inj H
     obtain ⟨Ao28, co28, eo28⟩ := Kd.N_slice HO_6.out
     subst eo28
     go_wp2
     go_ret
     exact ⟨_, by first | rfl | (simp [errW_none, errW_some] <;> rfl) | (simp [*, errW_none, errW_some] <;> rfl), by (with_reducible repeat (first | apply Kd.N_alloc | apply Kd.N_drewN | apply Kd.N_drew)); exact Kd.N_mono HO_5.out (fun _ hk => hk.1), by repeat (first | exact HB.out | apply za | apply zd | apply ze)⟩
   rw [if_pos c10] at H
   have c10b0 := decide_eq_true c10
   clear c10
   by_cases c11 : 0 ≤ x7_1
   rotate_left
   · rw [if_neg c11] at H
     exact absurd H (by simp)
   rw [if_pos c11] at H
   have c11b0 := decide_eq_true c11
   clear c11
   replace H := Option.bind_eq_some_iff.mp H
   obtain ⟨t650, A120, H⟩ := H
   try dsimp only at H
   have A12 := zk A120
   clear A120
   replace H := Option.bind_eq_some_iff.mp H
   obtain ⟨t653, A130, H⟩ := H
   try dsimp only at H
   have A13 := zk A130
   clear A130
   replace H := Option.bind_eq_some_iff.mp H
   obtain ⟨t656, A140, H⟩ := H
   try dsimp only at H
   have A14 := zk A140
   clear A140
   by_cases c15 : t656 = true
   rotate_left
   · replace c15 := Bool.eq_false_iff.mpr c15
     subst c15
     have H1 : (spec_l3Places.l0 k1 l0 l1 x5_1 t646 (wrap64 (x7_1 + 1))) = some r := by rw [if_neg (show ¬ (false = true) by decide)] at H; exact H
     clear H
     have H := H1
     clear H1
     have H' := zk H
     clear H
     obtain ⟨Ao23, co23, eo23⟩ := Kd.N_slice HO_6.out
     subst eo23
     have p649 : 0 ≤ (x7_1 : Int) := zo (by assumption)
     have q649 : x7_1 < (t646.length : Int) := zo (by assumption)
     obtain ⟨ad649, A649_0, c649_0, e649, hx649_0, hl649_0, hi649_0⟩ := at_L2 (Kd.N_reads' HO_6.out).2.2 x7_1 p649 q649
     cases e649
     obtain ⟨ce649, hce649, hMe649, hcc649⟩ := Kd.N_get HO_6.out [] x7_1 p649 (by first | exact q649 | exact zo (by assumption) | (have e_ := (Kd.N_reads' HO_6.out).1; omega))
     obtain ⟨ua649_0, uc649_0, rfl, ul649_0, ge649_0⟩ := Kd.FK_slice_open hMe649
     have hv649_0 := hcc649 0 _ rfl
     rw [Nat.add_zero, show ((Kd.slice 3 (Kd.int .i64))).sz = 1 from rfl, Nat.mul_one] at hv649_0
     replace hv649_0 := Option.some.inj (hv649_0.symm.trans hx649_0)
     injection hv649_0 with hva_ hvn_ hvc_
     rw [hva_] at ge649_0
     rw [hvc_] at ul649_0
     have HL649_0 := zk (show Kd.V (Kd.int .i64) 3 _ w.heap.size _ _ (rd_L2 t646 x7_1) from Kd.V_mk ul649_0 ge649_0)
     clear hva_ hvn_ hvc_ ge649_0 ul649_0
     clear hcc649 hce649
     have HR649_0 := zk hi649_0
     have HC649_0 := zk hl649_0
     clear hi649_0 hl649_0
     replace p649 := eq_true p649
     replace q649 := eq_true q649
     go_wp2_with (first | ((with_reducible refine gate_callee (f := 157) rfl ?_); refine zG (some 26) Try.func157 #[.slice A0 l0.length c0, .slice A649_0 (rd_L2 t646 x7_1).length c649_0] ?_; (with_reducible refine (spec_l3At.calls k1 _ _ l0 _ _ (rd_L2 t646 x7_1) t650 _ ?side1 ?side2 ?side3 ?side4 A12.out).mono ?_); (case side1 => exact zC (Kd.C_below HR0.out HB.out)); (case side2 => exact HC0.out); (case side3 => exact zC HR649_0.out); (case side4 => exact HC649_0.out); rintro e w24 ⟨v651, rfl, ho0, hb⟩; refine ⟨_, rfl, ?_⟩; have HO652 := zk (Kd.R_lower (Kd.R_newM (M := fun k_ => (w.heap.size ≤ k_)) ho0 (below_size (zB HB)) (fun k_ h_ => h_)) (below_size (zB HB))); replace HO_5 := zEN HO_5 ho0 hb; replace HO_6 := zEN HO_6 ho0 hb; replace HL649_0 := zk (Kd.V_elder' (zV HL649_0) (Kd.R_base ho0) hb); replace HR649_0 := zk (Kd.C_below (zC HR649_0.out) hb); replace HB := zF HB hb; (try clear hb ho0); obtain ⟨Ao25, co25, eo25⟩ := Kd.R_slice HO652.out; subst eo25) | ((with_reducible refine gate_callee (f := 156) rfl ?_); refine zG (some 27) Try.func156 #[.slice Ao25 t650.length co25] ?_; (with_reducible refine (spec_l3Shape.calls k1 _ _ t650 t653 _ ?side1 ?side2 A13.out).mono ?_); (case side1 => exact zC (Kd.R_reads' HO652.out).2.2); (case side2 => exact (Kd.R_reads' HO652.out).2.1); rintro e w26 ⟨v654, rfl, ho0, hb⟩; refine ⟨_, rfl, ?_⟩; have HO655 := zk (Kd.R_lower (Kd.R_new' (Kd.R_newM (M := fun k_ => (w.heap.size ≤ k_)) ho0 (below_size (zB HB)) (fun k_ h_ => h_)) (Kd.R_lt (zR HO652))) (below_size (zB HB))); replace HO_5 := zEN HO_5 ho0 hb; replace HO_6 := zEN HO_6 ho0 hb; replace HL649_0 := zk (Kd.V_elder' (zV HL649_0) (Kd.R_base ho0) hb); replace HO652 := zE HO652 ho0 hb; replace HR649_0 := zk (Kd.C_below (zC HR649_0.out) hb); replace HB := zF HB hb; (try clear hb ho0); obtain ⟨Ao27, co27, eo27⟩ := Kd.R_slice HO655.out; subst eo27) | ((with_reducible refine gate_callee (f := 170) rfl ?_); refine zG (some 29) Try.func170 #[.slice Ao27 t653.length co27, .slice A1 l1.length c1] ?_; (with_reducible refine (spec_l1Same.calls k1 _ _ t653 _ _ l1 false _ ?side1 ?side2 ?side3 ?side4 A14.out).mono ?_); (case side1 => exact zC (Kd.R_reads' HO655.out).2.2); (case side2 => exact (Kd.R_reads' HO655.out).2.1); (case side3 => exact zC (Kd.C_below HR1.out HB.out)); (case side4 => exact HC1.out); rintro e w' ⟨rfl, ⟨nd, rfl⟩⟩; refine ⟨_, rfl, ?_⟩))
     go_roundg k1
     case measure => have := HK1.out; omega
     case rel => exact ⟨(x5_1), (wrap64 (x7_1 + 1)), (by first | rfl | (simp; done) | (simp [*]; done)), H', ⟨by have := HK1.out; omega⟩, ⟨by (with_reducible repeat (first | apply Kd.N_alloc | apply Kd.N_drewN | apply Kd.N_drew)); exact Kd.N_mono HO_5.out (fun _ hk => ⟨hk.1.1.1, hk.1.1.2⟩)⟩, ⟨by (with_reducible repeat (first | apply Kd.N_alloc | apply Kd.N_drewN | apply Kd.N_drew)); exact Kd.N_mono HO_6.out (fun _ hk => ⟨hk.1.1.1, hk.1.1.2⟩)⟩, ⟨by repeat (first | exact HB.out | apply za | apply zd | apply ze)⟩⟩
   subst c15
   have H1 : (if x5_1.length < 5864062014805 then (spec_l3Places.l0 k1 l0 l1 (x5_1 ++ [rd_L2 t646 x7_1]) t646 (wrap64 (x7_1 + 1))) else (none)) = some r := by rw [if_pos rfl] at H; exact H
   clear H
   have H := H1
   clear H1
   by_cases c16 : x5_1.length < 5864062014805
   rotate_left
   · rw [if_neg c16] at H
     exact absurd H (by simp)
   rw [if_pos c16] at H
   have LMc16 := zk c16
   clear c16
   obtain ⟨y658, hy658⟩ : ∃ y_ : List (List Int), y_ = (x5_1 ++ [rd_L2 t646 x7_1]) := ⟨_, rfl⟩
   replace H : (spec_l3Places.l0 k1 l0 l1 y658 t646 (wrap64 (x7_1 + 1))) = some r := by first | (rw [hy658]; with_reducible exact H) | (have H2_ := (Option.bind_some _ _).symm.trans H; rw [hy658]; with_reducible exact H2_) | (have H2_ := (Option.bind_some _ _).symm.trans H; with_reducible exact H2_) | with_reducible exact H | (rw [hy658]; exact H) | exact H
   have Ny658 := zk hy658
   clear hy658
   have H' := zk H
   clear H
   obtain ⟨Ao17, co17, eo17⟩ := Kd.N_slice HO_6.out
   subst eo17
   have p649 : 0 ≤ (x7_1 : Int) := zo (by assumption)
   have q649 : x7_1 < (t646.length : Int) := zo (by assumption)
   obtain ⟨ad649, A649_0, c649_0, e649, hx649_0, hl649_0, hi649_0⟩ := at_L2 (Kd.N_reads' HO_6.out).2.2 x7_1 p649 q649
   cases e649
   obtain ⟨ce649, hce649, hMe649, hcc649⟩ := Kd.N_get HO_6.out [] x7_1 p649 (by first | exact q649 | exact zo (by assumption) | (have e_ := (Kd.N_reads' HO_6.out).1; omega))
   obtain ⟨ua649_0, uc649_0, rfl, ul649_0, ge649_0⟩ := Kd.FK_slice_open hMe649
   have hv649_0 := hcc649 0 _ rfl
   rw [Nat.add_zero, show ((Kd.slice 3 (Kd.int .i64))).sz = 1 from rfl, Nat.mul_one] at hv649_0
   replace hv649_0 := Option.some.inj (hv649_0.symm.trans hx649_0)
   injection hv649_0 with hva_ hvn_ hvc_
   rw [hva_] at ge649_0
   rw [hvc_] at ul649_0
   have HL649_0 := zk (show Kd.V (Kd.int .i64) 3 _ w.heap.size _ _ (rd_L2 t646 x7_1) from Kd.V_mk ul649_0 ge649_0)
   clear hva_ hvn_ hvc_ ge649_0 ul649_0
   clear hcc649 hce649
   have HR649_0 := zk hi649_0
   have HC649_0 := zk hl649_0
   clear hi649_0 hl649_0
   replace p649 := eq_true p649
   replace q649 := eq_true q649
   go_wp2_with (first | ((with_reducible refine gate_callee (f := 157) rfl ?_); refine zG (some 26) Try.func157 #[.slice A0 l0.length c0, .slice A649_0 (rd_L2 t646 x7_1).length c649_0] ?_; (with_reducible refine (spec_l3At.calls k1 _ _ l0 _ _ (rd_L2 t646 x7_1) t650 _ ?side1 ?side2 ?side3 ?side4 A12.out).mono ?_); (case side1 => exact zC (Kd.C_below HR0.out HB.out)); (case side2 => exact HC0.out); (case side3 => exact zC HR649_0.out); (case side4 => exact HC649_0.out); rintro e w18 ⟨v651, rfl, ho0, hb⟩; refine ⟨_, rfl, ?_⟩; have HO652 := zk (Kd.R_lower (Kd.R_newM (M := fun k_ => (w.heap.size ≤ k_)) ho0 (below_size (zB HB)) (fun k_ h_ => h_)) (below_size (zB HB))); replace HO_5 := zEN HO_5 ho0 hb; replace HO_6 := zEN HO_6 ho0 hb; replace HL649_0 := zk (Kd.V_elder' (zV HL649_0) (Kd.R_base ho0) hb); replace HR649_0 := zk (Kd.C_below (zC HR649_0.out) hb); replace HB := zF HB hb; (try clear hb ho0); obtain ⟨Ao19, co19, eo19⟩ := Kd.R_slice HO652.out; subst eo19) | ((with_reducible refine gate_callee (f := 156) rfl ?_); refine zG (some 27) Try.func156 #[.slice Ao19 t650.length co19] ?_; (with_reducible refine (spec_l3Shape.calls k1 _ _ t650 t653 _ ?side1 ?side2 A13.out).mono ?_); (case side1 => exact zC (Kd.R_reads' HO652.out).2.2); (case side2 => exact (Kd.R_reads' HO652.out).2.1); rintro e w20 ⟨v654, rfl, ho0, hb⟩; refine ⟨_, rfl, ?_⟩; have HO655 := zk (Kd.R_lower (Kd.R_new' (Kd.R_newM (M := fun k_ => (w.heap.size ≤ k_)) ho0 (below_size (zB HB)) (fun k_ h_ => h_)) (Kd.R_lt (zR HO652))) (below_size (zB HB))); replace HO_5 := zEN HO_5 ho0 hb; replace HO_6 := zEN HO_6 ho0 hb; replace HL649_0 := zk (Kd.V_elder' (zV HL649_0) (Kd.R_base ho0) hb); replace HO652 := zE HO652 ho0 hb; replace HR649_0 := zk (Kd.C_below (zC HR649_0.out) hb); replace HB := zF HB hb; (try clear hb ho0); obtain ⟨Ao21, co21, eo21⟩ := Kd.R_slice HO655.out; subst eo21) | ((with_reducible refine gate_callee (f := 170) rfl ?_); refine zG (some 29) Try.func170 #[.slice Ao21 t653.length co21, .slice A1 l1.length c1] ?_; (with_reducible refine (spec_l1Same.calls k1 _ _ t653 _ _ l1 true _ ?side1 ?side2 ?side3 ?side4 A14.out).mono ?_); (case side1 => exact zC (Kd.R_reads' HO655.out).2.2); (case side2 => exact (Kd.R_reads' HO655.out).2.1); (case side3 => exact zC (Kd.C_below HR1.out HB.out)); (case side4 => exact HC1.out); rintro e w' ⟨rfl, ⟨nd, rfl⟩⟩; refine ⟨_, rfl, ?_⟩; have p657 : 0 ≤ (x7_1 : Int) := zo (by assumption); have q657 : x7_1 < (t646.length : Int) := zo (by assumption); obtain ⟨ad657, A657_0, c657_0, e657, hx657_0, hl657_0, hi657_0⟩ := at_L2 (Kd.N_reads' HO_6.out).2.2 x7_1 p657 q657; obtain rfl : ad649 = ad657 := (by injection e657); obtain ⟨ce657, hce657, hMe657, hcc657⟩ := Kd.N_get HO_6.out [] x7_1 p657 (by first | exact q657 | exact zo (by assumption) | (have e_ := (Kd.N_reads' HO_6.out).1; omega)); obtain ⟨ua657_0, uc657_0, rfl, ul657_0, ge657_0⟩ := Kd.FK_slice_open hMe657; have hv657_0 := hcc657 0 _ rfl; rw [Nat.add_zero, show ((Kd.slice 3 (Kd.int .i64))).sz = 1 from rfl, Nat.mul_one] at hv657_0; replace hv657_0 := Option.some.inj (hv657_0.symm.trans hx657_0); injection hv657_0 with hva_ hvn_ hvc_; rw [hva_] at ge657_0; rw [hvc_] at ul657_0; have HL657_0 := zk (show Kd.V (Kd.int .i64) 3 _ w.heap.size _ _ (rd_L2 t646 x7_1) from Kd.V_mk ul657_0 ge657_0); clear hva_ hvn_ hvc_ ge657_0 ul657_0; clear hcc657 hce657; have HR657_0 := zk hi657_0; have HC657_0 := zk hl657_0; clear hi657_0 hl657_0; replace p657 := eq_true p657; replace q657 := eq_true q657) | ((with_reducible refine gate_builtin (b := .append) (xs := #[.tmp 30, .tmp 35]) rfl ?_); at_builtin; refine Kd.N_append (Kd.slice 3 (Kd.int .i64)) (w0 := w) w.heap.size rfl (.tmp 30) (.tmp 35) 28 22 (.slice none 0 0) 24 rfl Try.underlying28 info22 rfl (by decide) (by omega) u5 x5_1 (rd_L2 t646 x7_1) [.slice A657_0 (rd_L2 t646 x7_1).length c657_0] (fun k_ => (w.heap.size ≤ k_) ∧ some k_ ≠ (.slice (some ad649) t646.length co17 : Value).ownBlock ∧ some k_ ≠ (.slice Ao19 t650.length co19 : Value).ownBlock ∧ some k_ ≠ (.slice Ao21 t653.length co21 : Value).ownBlock) (fun k_ => ((fun k_ => (w.heap.size ≤ k_) ∧ some k_ ≠ (.slice (some ad649) t646.length co17 : Value).ownBlock ∧ some k_ ≠ (.slice Ao19 t650.length co19 : Value).ownBlock ∧ some k_ ≠ (.slice Ao21 t653.length co21 : Value).ownBlock)) k_ ∧ some k_ ≠ (u5 : Value).ownBlock) rfl rfl ?aP (fun _ hk => hk) ?aF ?aO ?aB ?aS ?aL ?_; (case aP => exact (Kd.FK_slice_mk (Kd.V_reads' (Kd.V_mono (ok' := (fun k_ => ((fun k_ => (w.heap.size ≤ k_) ∧ some k_ ≠ (.slice (some ad649) t646.length co17 : Value).ownBlock ∧ some k_ ≠ (.slice Ao19 t650.length co19 : Value).ownBlock ∧ some k_ ≠ (.slice Ao21 t653.length co21 : Value).ownBlock)) k_ ∧ some k_ ≠ (u5 : Value).ownBlock)) (HL657_0.out) (fun k_ hk => ⟨⟨hk.1.1.1.1, ⟨hk.2, ⟨hk.1.1.2, hk.1.2⟩⟩⟩, hk.1.1.1.2⟩))).2.1 (Kd.V_F (by (with_reducible repeat (first | apply Kd.V_alloc | apply Kd.V_drewN | apply Kd.V_drew)); exact Kd.V_mono (ok' := (fun k_ => ((fun k_ => (w.heap.size ≤ k_) ∧ some k_ ≠ (.slice (some ad649) t646.length co17 : Value).ownBlock ∧ some k_ ≠ (.slice Ao19 t650.length co19 : Value).ownBlock ∧ some k_ ≠ (.slice Ao21 t653.length co21 : Value).ownBlock)) k_ ∧ some k_ ≠ (u5 : Value).ownBlock)) (HL657_0.out) (fun k_ hk => ⟨⟨hk.1.1.1.1, ⟨hk.2, ⟨hk.1.1.2, hk.1.2⟩⟩⟩, hk.1.1.1.2⟩))))); (case aB => exact (zB HB)); (case aF => exact (fun k_ hk => ⟨(Nat.le_trans (below_size (zB HB)) hk), Kd.fresh' (Kd.N_lt (zN HO_6)) k_ hk, Kd.fresh' (Kd.R_lt (zR HO652)) k_ hk, Kd.fresh' (Kd.R_lt (zR HO655)) k_ hk⟩)); (case aO => exact (by (with_reducible repeat (first | apply Kd.N_alloc | apply Kd.N_drewN | apply Kd.N_drew)); exact Kd.N_mono HO_5.out (fun _ hk => ⟨hk.1.1.1, ⟨hk.1.1.2, ⟨hk.1.2, hk.2⟩⟩⟩))); (case aS => exact (below_size (zB HB))); (case aL => have := LMc16.out; omega); intro v659 w22 ho hb hg hat; rw [← Ny658.out] at ho; have HO660 := zk (ho); replace HO_6 := zk (Kd.N_afterv (ok := (fun k_ => (w.heap.size ≤ k_) ∧ some k_ ≠ (.slice Ao19 t650.length co19 : Value).ownBlock ∧ some k_ ≠ (.slice Ao21 t653.length co21 : Value).ownBlock)) (by (with_reducible repeat (first | apply Kd.N_alloc | apply Kd.N_drewN | apply Kd.N_drew)); first | exact Kd.N_mono HO_6.out (fun _ hk => ⟨⟨hk.1.1.1, ⟨hk.1.2, hk.2⟩⟩, hk.1.1.2⟩) | exact Kd.N_mono HO_6.out (fun k_ hk => by (have own_ : ∀ (A : Option Addr) (n c : Nat), (Value.slice A n c).ownBlock = A.map Addr.block := fun A n c => by cases A <;> rfl); simp only [own_] at hk ⊢; exact ⟨⟨hk.1.1.1, ⟨hk.1.2, hk.2⟩⟩, hk.1.1.2⟩)) hg hat); replace HL649_0 := zk (Kd.V_afterv (ok := (fun k_ => (w.heap.size ≤ k_) ∧ some k_ ≠ (.slice (some ad649) t646.length co17 : Value).ownBlock ∧ some k_ ≠ (.slice Ao19 t650.length co19 : Value).ownBlock ∧ some k_ ≠ (.slice Ao21 t653.length co21 : Value).ownBlock)) (by (with_reducible repeat (first | apply Kd.V_alloc | apply Kd.V_drewN | apply Kd.V_drew)); exact Kd.V_mono HL649_0.out (fun _ hk => ⟨⟨hk.1.1.1.1, ⟨hk.1.1.2, ⟨hk.1.2, hk.2⟩⟩⟩, hk.1.1.1.2⟩)) hg hat); replace HO652 := zk (Kd.R_over' (zR HO652) (Kd.N_typed (zN HO_5)) (by decide) hg); replace HO655 := zk (Kd.R_over' (zR HO655) (Kd.N_typed (zN HO_5)) (by decide) hg); replace HL657_0 := zk (Kd.V_afterv (ok := (fun k_ => (w.heap.size ≤ k_) ∧ some k_ ≠ (.slice (some ad649) t646.length co17 : Value).ownBlock ∧ some k_ ≠ (.slice Ao19 t650.length co19 : Value).ownBlock ∧ some k_ ≠ (.slice Ao21 t653.length co21 : Value).ownBlock)) (by (with_reducible repeat (first | apply Kd.V_alloc | apply Kd.V_drewN | apply Kd.V_drew)); exact Kd.V_mono HL657_0.out (fun _ hk => ⟨⟨hk.1.1.1.1, ⟨hk.2, ⟨hk.1.1.2, hk.1.2⟩⟩⟩, hk.1.1.1.2⟩)) hg hat); replace HB := zk (hb); clear HO_5; clear ho hb hg hat))
   go_roundg k1
   case measure => have := HK1.out; omega
   case rel => exact ⟨(y658), (wrap64 (x7_1 + 1)), (by first | rfl | (simp; done) | (simp [*]; done)), H', ⟨by have := HK1.out; omega⟩, ⟨by (with_reducible repeat (first | apply Kd.N_alloc | apply Kd.N_drewN | apply Kd.N_drew)); exact Kd.N_mono HO660.out (fun _ hk => ⟨hk.1, hk.2.1⟩)⟩, ⟨by (with_reducible repeat (first | apply Kd.N_alloc | apply Kd.N_drewN | apply Kd.N_drew)); exact Kd.N_mono HO_6.out (fun _ hk => ⟨hk.1.1, hk.2⟩)⟩, ⟨by repeat (first | exact HB.out | apply za | apply zd | apply ze)⟩⟩

/-! ### spec_MostPlaces: function 124 -/
mutual
def spec_MostPlaces.j0 : Nat → Int → List Int → Bool → Option (List Int × Int × Bool)
 | 0, _, _, _ => none
 | k + 1, x0, x1, x19 => if x19 = true then (some ((([] : List Int)), 0, false)) else ((spec_l2Orders.f k x0).bind fun t666 => (if 0 < (t666.length : Int) then (spec_MostPlaces.l0 k x1 t666 (rd_L2 t666 0) (-1) 0) else (none)))
def spec_MostPlaces.l0 : Nat → List Int → List (List Int) → List Int → Int → Int → Option (List Int × Int × Bool)
 | 0, _, _, _, _, _ => none
 | k + 1, x1, x7, x8, x9, x10 => if x10 < (x7.length : Int) then (if 0 ≤ x10 then ((spec_l3Places.f k (rd_L2 x7 x10) x1).bind fun t671 => (if (t671.length : Int) > x9 then (spec_MostPlaces.l0 k x1 x7 (rd_L2 x7 x10) (t671.length : Int) (wrap64 (x10 + 1))) else (spec_MostPlaces.l0 k x1 x7 x8 x9 (wrap64 (x10 + 1))))) else (none)) else (some (x8, x9, true))
end
def spec_MostPlaces.f (k : Nat) (a0 : Int) (l1 : List Int) : Option (List Int × Int × Bool) := (spec_l3Size.f a0).bind fun t661 => (if t661 = true then ((spec_l2Order.f k l1).bind fun t662 => (spec_MostPlaces.j0 k a0 l1 (!t662))) else (spec_MostPlaces.j0 k a0 l1 true))
set_option maxHeartbeats 8000000 in
set_option maxRecDepth 100000 in
theorem spec_MostPlaces.calls (k : Nat) (a0 : Int) (A1 : Option Addr) (c1 : Nat) (l1 : List Int) (r1 : List Int) (r2 : Int) (r3 : Bool) (w : World) (hr1 : Kd.C (Kd.int .i64) w A1 l1.length l1) (hc1 : l1.length ≤ c1) (h : spec_MostPlaces.f k a0 l1 = some (r1, r2, r3)) :
 Calls Try.prog 124 #[.int .i64 a0, .slice A1 l1.length c1] w fun e w' => ∃ v0_ : Value, e = .returned (.tuple #[v0_, .int .i64 r2, .bool r3]) ∧ Kd.V (Kd.int .i64) 3 w' w.heap.size (fun k_ => (w.heap.size ≤ k_)) v0_ r1 ∧ Below w.heap.size w w' := by
 have HR1 := zk hr1
 have HC1 := zk hc1
 clear hr1 hc1
 have HB := zk (Below.refl w.heap.size w)
 have H := h
 unfold spec_MostPlaces.f at H
 clear h
 have HC3 := zk H
 clear H
 go_enter Try.func124, Try.ntmps124
 go_upto_region 1 with (fail)
 go_cut [19] (fun v19 wc => ∃ (kq : Nat) (x19_2 : Bool), v19 = .bool x19_2 ∧ Aside0 (spec_MostPlaces.j0 kq a0 l1 x19_2 = some (r1, r2, r3)) ∧ Aside0 (kq ≤ k) ∧ Aside0 (Below w.heap.size w wc))
 case first =>
  have H := HC3.out
  clear HC3
  replace H := Option.bind_eq_some_iff.mp H
  obtain ⟨t661, A40, H⟩ := H
  try dsimp only at H
  have A4 := zk A40
  clear A40
  by_cases c5 : t661 = true
  rotate_left
  · replace c5 := Bool.eq_false_iff.mpr c5
    subst c5
    have H1 : (spec_MostPlaces.j0 k a0 l1 true) = some (r1, r2, r3) := by rw [if_neg (show ¬ (false = true) by decide)] at H; exact H
    clear H
    have H := H1
    clear H1
    have H' := zk H
    clear H
    go_wp2_with (first | ((with_reducible refine gate_callee (f := 224) rfl ?_); refine zG (some 13) Try.func224 #[.int .i64 a0] ?_; (with_reducible refine (spec_l3Size.calls a0 false _ A4.out).mono ?_); rintro e w' ⟨rfl, ⟨nd, rfl⟩⟩; refine ⟨_, rfl, ?_⟩))
    go_meet
    case rel => exact ⟨_, (true), (by first | rfl | (simp; done) | (simp [*]; done)), H', ⟨by first | omega | exact Nat.le_refl _⟩, ⟨by repeat (first | exact HB.out | apply za | apply zd | apply ze)⟩⟩
  subst c5
  have H1 : ((spec_l2Order.f k l1).bind fun t662 => (spec_MostPlaces.j0 k a0 l1 (!t662))) = some (r1, r2, r3) := by rw [if_pos rfl] at H; exact H
  clear H
  have H := H1
  clear H1
  replace H := Option.bind_eq_some_iff.mp H
  obtain ⟨t662, A60, H⟩ := H
  try dsimp only at H
  have A6 := zk A60
  clear A60
  have H' := zk H
  clear H
  go_wp2_with (first | ((with_reducible refine gate_callee (f := 224) rfl ?_); refine zG (some 13) Try.func224 #[.int .i64 a0] ?_; (with_reducible refine (spec_l3Size.calls a0 true _ A4.out).mono ?_); rintro e w' ⟨rfl, ⟨nd, rfl⟩⟩; refine ⟨_, rfl, ?_⟩) | (go_at_call 142; (with_reducible refine (spec_l2Order.calls k _ _ l1 t662 _ ?side1 ?side2 A6.out).mono ?_); (case side1 => exact zC (Kd.C_below HR1.out (zB HB))); (case side2 => exact HC1.out); rintro e w' ⟨rfl, ⟨nd, rfl⟩⟩))
  go_meet
  case rel => exact ⟨_, (!t662), (by first | rfl | (simp; done) | (simp [*]; done)), H', ⟨by first | omega | exact Nat.le_refl _⟩, ⟨by repeat (first | exact HB.out | apply za | apply zd | apply ze)⟩⟩
 case rest =>
  clear HC3
  try clear c1
  try clear c2
  try clear p2
  try clear c5
  obtain ⟨kq, x19_2, rfl, HA, HJ2, HB⟩ := hcut
  cases kq with
  | zero => exact absurd HA.out (by simp [spec_MostPlaces.j0])
  | succ kj2 =>
   have H := HA.out
   clear HA
   simp only [spec_MostPlaces.j0] at H
   by_cases c7 : x19_2 = true
   rotate_left
   · replace c7 := Bool.eq_false_iff.mpr c7
     subst c7
     have H1 : ((spec_l2Orders.f kj2 a0).bind fun t666 => (if 0 < (t666.length : Int) then (spec_MostPlaces.l0 kj2 l1 t666 (rd_L2 t666 0) (-1) 0) else (none))) = some (r1, r2, r3) := by rw [if_neg (show ¬ (false = true) by decide)] at H; exact H
     clear H
     have H := H1
     clear H1
     replace H := Option.bind_eq_some_iff.mp H
     obtain ⟨t666, A100, H⟩ := H
     try dsimp only at H
     have A10 := zk A100
     clear A100
     by_cases c11 : 0 < (t666.length : Int)
     rotate_left
     · rw [if_neg c11] at H
       exact absurd H (by simp)
     rw [if_pos c11] at H
     have c11b0 := decide_eq_true c11
     have c11b1 : decide (0 < t666.length) = true := decide_eq_true (by omega)
     have c11b9 : (0 < t666.length) := by omega
     clear c11
     have H' := zk H
     clear H
     go_wp2_with (first | ((with_reducible refine gate_callee (f := 178) rfl ?_); refine zG (some 22) Try.func178 #[.int .i64 a0] ?_; (with_reducible refine (spec_l2Orders.calls kj2 a0 t666 _ A10.out).mono ?_); rintro e w12 ⟨v667, rfl, ho0, hb⟩; refine ⟨_, rfl, ?_⟩; have HO668 := zk (Kd.N_lower (Kd.N_mono (ok' := fun k_ => (w.heap.size ≤ k_)) (Kd.S_N (Kd.S_bound ho0)) (fun k_ hk_ => (Nat.le_trans (below_size (zB HB)) hk_.2.1))) (below_size (zB HB))); replace HB := zF HB hb; (try clear hb ho0); obtain ⟨Ao13, co13, eo13⟩ := Kd.N_slice HO668.out; subst eo13; have p669 : 0 ≤ (0 : Int) := (by omega); have q669 : 0 < (t666.length : Int) := zo (by assumption); obtain ⟨ad669, A669_0, c669_0, e669, hx669_0, hl669_0, hi669_0⟩ := at_L2 (Kd.N_reads' HO668.out).2.2 0 p669 q669; cases e669; obtain ⟨ce669, hce669, hMe669, hcc669⟩ := Kd.N_get HO668.out [] 0 p669 (by first | exact q669 | exact zo (by assumption) | (have e_ := (Kd.N_reads' HO668.out).1; omega)); obtain ⟨ua669_0, uc669_0, rfl, ul669_0, ge669_0⟩ := Kd.FK_slice_open hMe669; have hv669_0 := hcc669 0 _ rfl; rw [Nat.add_zero, show ((Kd.slice 3 (Kd.int .i64))).sz = 1 from rfl, Nat.mul_one] at hv669_0; replace hv669_0 := Option.some.inj (hv669_0.symm.trans hx669_0); injection hv669_0 with hva_ hvn_ hvc_; rw [hva_] at ge669_0; rw [hvc_] at ul669_0; have HL669_0 := zk (show Kd.V (Kd.int .i64) 3 _ w.heap.size _ _ (rd_L2 t666 0) from Kd.V_mk ul669_0 ge669_0); clear hva_ hvn_ hvc_ ge669_0 ul669_0; clear hcc669 hce669; have qi669 : (0 < t666.length) = True := eq_true (by omega); (try rw [show ((0 : Int)).toNat = 0 from rfl] at hx669_0); (try rw [Addr.add_zero'] at hx669_0); have HR669_0 := zk hi669_0; have HC669_0 := zk hl669_0; clear hi669_0 hl669_0; replace p669 := eq_true p669; replace q669 := eq_true q669))
     go_loopg [8, 9, 10] kj2 (fun kq v8 v9 v10 w' => ∃ (x8_2 : List Int) (x9_2 : Int) (x10_2 : Int), v9 = .int .i64 x9_2 ∧ v10 = .int .i64 x10_2 ∧ Aside0 (spec_MostPlaces.l0 kq l1 t666 x8_2 x9_2 x10_2 = some (r1, r2, r3)) ∧ Aside0 (kq ≤ kj2) ∧ Aside0 (Kd.N (Kd.slice 3 (Kd.int .i64)) 22 w' w.heap.size (fun k_ => (w.heap.size ≤ k_)) (.slice (some ad669) t666.length co13) t666) ∧ Aside0 (Kd.V (Kd.int .i64) 3 w' w.heap.size (fun k_ => (w.heap.size ≤ k_) ∧ some k_ ≠ ((.slice (some ad669) t666.length co13) : Value).ownBlock) v8 x8_2) ∧ Aside0 (Kd.C (Kd.int .i64) w' A669_0 (rd_L2 t666 0).length (rd_L2 t666 0)) ∧ Aside0 (Below w.heap.size w w'))
     case atStart => exact ⟨(rd_L2 t666 0), ((-1)), (0), (by first | rfl | (simp; done) | (simp [*]; done)), (by first | rfl | (simp; done) | (simp [*]; done)), H', ⟨Nat.le_refl _⟩, ⟨by (with_reducible repeat (first | apply Kd.N_alloc | apply Kd.N_drewN | apply Kd.N_drew)); exact HO668.out⟩, ⟨by (with_reducible repeat (first | apply Kd.V_alloc | apply Kd.V_drewN | apply Kd.V_drew)); exact HL669_0.out⟩, ⟨by repeat (first | (with_reducible exact HR669_0.out) | (with_reducible refine zv ?_ _) | (with_reducible refine zu ?_ _) | (with_reducible refine zw ?_) | exact HR669_0.out)⟩, ⟨by repeat (first | exact HB.out | apply za | apply zd | apply ze)⟩⟩
     case round =>
      clear H'
      try clear c1
      try clear c2
      try clear p2
      try clear c5
      try clear c6
      try clear p6
      try clear q6
      try clear hx6
      try clear qi6
      try clear c7
      try clear c11
      try clear c11b0
      try clear c11b1
      try clear c12
      try clear hx669_0
      try clear p2
      try clear p669
      try clear q669
      obtain ⟨x8_2, x9_2, x10_2, rfl, rfl, HA, HK2, HO_7, HO_8, HR669_0, HB⟩ := hrel
      cases gk with
      | zero => exact absurd HA.out (by simp [spec_MostPlaces.l0])
      | succ k2 =>
       have H := HA.out
       clear HA
       simp only [spec_MostPlaces.l0] at H
       by_cases c14 : x10_2 < (t666.length : Int)
       rotate_left
       · rw [if_neg c14] at H
         have c14b0 := decide_eq_false c14
         clear c14
         simp only [Option.some.injEq, Prod.mk.injEq] at H
         obtain ⟨rfl, rfl, rfl⟩ := H
         go_wp2
         go_ret3
         exact ⟨_, by first | rfl | (simp [errW_none, errW_some] <;> rfl) | (simp [*, errW_none, errW_some] <;> rfl), by (with_reducible repeat (first | apply Kd.V_alloc | apply Kd.V_drewN | apply Kd.V_drew)); exact Kd.V_mono HO_8.out (fun _ hk => hk.1), by repeat (first | exact HB.out | apply za | apply zd | apply ze)⟩
       rw [if_pos c14] at H
       have c14b0 := decide_eq_true c14
       clear c14
       by_cases c15 : 0 ≤ x10_2
       rotate_left
       · rw [if_neg c15] at H
         exact absurd H (by simp)
       rw [if_pos c15] at H
       have c15b0 := decide_eq_true c15
       clear c15
       replace H := Option.bind_eq_some_iff.mp H
       obtain ⟨t671, A160, H⟩ := H
       try dsimp only at H
       have A16 := zk A160
       clear A160
       by_cases c17 : (t671.length : Int) > x9_2
       rotate_left
       · rw [if_neg c17] at H
         have c17b0 := decide_eq_false c17
         clear c17
         have H' := zk H
         clear H
         have p670 : 0 ≤ (x10_2 : Int) := zo (by assumption)
         have q670 : x10_2 < (t666.length : Int) := zo (by assumption)
         obtain ⟨ad670, A670_0, c670_0, e670, hx670_0, hl670_0, hi670_0⟩ := at_L2 (Kd.N_reads' HO_7.out).2.2 x10_2 p670 q670
         obtain rfl : ad669 = ad670 := (by injection e670)
         obtain ⟨ce670, hce670, hMe670, hcc670⟩ := Kd.N_get HO_7.out [] x10_2 p670 (by first | exact q670 | exact zo (by assumption) | (have e_ := (Kd.N_reads' HO_7.out).1; omega))
         obtain ⟨ua670_0, uc670_0, rfl, ul670_0, ge670_0⟩ := Kd.FK_slice_open hMe670
         have hv670_0 := hcc670 0 _ rfl
         rw [Nat.add_zero, show ((Kd.slice 3 (Kd.int .i64))).sz = 1 from rfl, Nat.mul_one] at hv670_0
         replace hv670_0 := Option.some.inj (hv670_0.symm.trans hx670_0)
         injection hv670_0 with hva_ hvn_ hvc_
         rw [hva_] at ge670_0
         rw [hvc_] at ul670_0
         have HL670_0 := zk (show Kd.V (Kd.int .i64) 3 _ w.heap.size _ _ (rd_L2 t666 x10_2) from Kd.V_mk ul670_0 ge670_0)
         clear hva_ hvn_ hvc_ ge670_0 ul670_0
         clear hcc670 hce670
         have HR670_0 := zk hi670_0
         have HC670_0 := zk hl670_0
         clear hi670_0 hl670_0
         replace p670 := eq_true p670
         replace q670 := eq_true q670
         go_wp2_with (first | ((with_reducible refine gate_callee (f := 235) rfl ?_); refine zG (some 37) Try.func235 #[.slice A670_0 (rd_L2 t666 x10_2).length c670_0, .slice A1 l1.length c1] ?_; (with_reducible refine (spec_l3Places.calls k2 _ _ (rd_L2 t666 x10_2) _ _ l1 t671 _ ?side1 ?side2 ?side3 ?side4 A16.out).mono ?_); (case side1 => exact zC HR670_0.out); (case side2 => exact HC670_0.out); (case side3 => exact zC (Kd.C_below HR1.out HB.out)); (case side4 => exact HC1.out); rintro e w20 ⟨v672, rfl, ho0, hb⟩; refine ⟨_, rfl, ?_⟩; have HO673 := zk (Kd.N_lower (Kd.N_mono (ok' := fun k_ => (w.heap.size ≤ k_) ∧ some k_ ≠ (.slice (some ad669) t666.length co13 : Value).ownBlock) ho0 (fun k_ hk_ => ⟨(Nat.le_trans (below_size (zB HB)) hk_), (Kd.fresh' (Kd.N_lt (zN HO_7)) k_ hk_)⟩)) (below_size (zB HB))); replace HO_7 := zk (Kd.N_elder' (zN HO_7) (by first | exact Kd.N_base ho0 | exact Kd.S_base ho0 | exact Kd.R_base ho0) hb); replace HO_8 := zk (Kd.V_elder' (zV HO_8) (by first | exact Kd.N_base ho0 | exact Kd.S_base ho0 | exact Kd.R_base ho0) hb); replace HL670_0 := zk (Kd.V_elder' (zV HL670_0) (by first | exact Kd.N_base ho0 | exact Kd.S_base ho0 | exact Kd.R_base ho0) hb); replace HR669_0 := zk (Kd.C_below (zC HR669_0.out) hb); replace HR670_0 := zk (Kd.C_below (zC HR670_0.out) hb); replace HB := zF HB hb; (try clear hb ho0); obtain ⟨Ao21, co21, eo21⟩ := Kd.N_slice HO673.out; subst eo21))
         go_roundg k2
         case measure => have := HJ2.out; have := HK2.out; omega
         case rel => exact ⟨(x8_2), (x9_2), (wrap64 (x10_2 + 1)), (by first | rfl | (simp; done) | (simp [*]; done)), (by first | rfl | (simp; done) | (simp [*]; done)), H', ⟨by have := HJ2.out; have := HK2.out; omega⟩, ⟨by (with_reducible repeat (first | apply Kd.N_alloc | apply Kd.N_drewN | apply Kd.N_drew)); exact Kd.N_mono HO_7.out (fun _ hk => hk.1)⟩, ⟨by (with_reducible repeat (first | apply Kd.V_alloc | apply Kd.V_drewN | apply Kd.V_drew)); exact Kd.V_mono HO_8.out (fun _ hk => ⟨hk.1.1, hk.1.2⟩)⟩, ⟨by repeat (first | (with_reducible exact HR669_0.out) | (with_reducible refine zv ?_ _) | (with_reducible refine zu ?_ _) | (with_reducible refine zw ?_) | exact HR669_0.out)⟩, ⟨by repeat (first | exact HB.out | apply za | apply zd | apply ze)⟩⟩
       rw [if_pos c17] at H
       have c17b0 := decide_eq_true c17
       clear c17
       have H' := zk H
       clear H
       have p670 : 0 ≤ (x10_2 : Int) := zo (by assumption)
       have q670 : x10_2 < (t666.length : Int) := zo (by assumption)
       obtain ⟨ad670, A670_0, c670_0, e670, hx670_0, hl670_0, hi670_0⟩ := at_L2 (Kd.N_reads' HO_7.out).2.2 x10_2 p670 q670
       obtain rfl : ad669 = ad670 := (by injection e670)
       obtain ⟨ce670, hce670, hMe670, hcc670⟩ := Kd.N_get HO_7.out [] x10_2 p670 (by first | exact q670 | exact zo (by assumption) | (have e_ := (Kd.N_reads' HO_7.out).1; omega))
       obtain ⟨ua670_0, uc670_0, rfl, ul670_0, ge670_0⟩ := Kd.FK_slice_open hMe670
       have hv670_0 := hcc670 0 _ rfl
       rw [Nat.add_zero, show ((Kd.slice 3 (Kd.int .i64))).sz = 1 from rfl, Nat.mul_one] at hv670_0
       replace hv670_0 := Option.some.inj (hv670_0.symm.trans hx670_0)
       injection hv670_0 with hva_ hvn_ hvc_
       rw [hva_] at ge670_0
       rw [hvc_] at ul670_0
       have HL670_0 := zk (show Kd.V (Kd.int .i64) 3 _ w.heap.size _ _ (rd_L2 t666 x10_2) from Kd.V_mk ul670_0 ge670_0)
       clear hva_ hvn_ hvc_ ge670_0 ul670_0
       clear hcc670 hce670
       have HR670_0 := zk hi670_0
       have HC670_0 := zk hl670_0
       clear hi670_0 hl670_0
       replace p670 := eq_true p670
       replace q670 := eq_true q670
       go_wp2_with (first | ((with_reducible refine gate_callee (f := 235) rfl ?_); refine zG (some 37) Try.func235 #[.slice A670_0 (rd_L2 t666 x10_2).length c670_0, .slice A1 l1.length c1] ?_; (with_reducible refine (spec_l3Places.calls k2 _ _ (rd_L2 t666 x10_2) _ _ l1 t671 _ ?side1 ?side2 ?side3 ?side4 A16.out).mono ?_); (case side1 => exact zC HR670_0.out); (case side2 => exact HC670_0.out); (case side3 => exact zC (Kd.C_below HR1.out HB.out)); (case side4 => exact HC1.out); rintro e w18 ⟨v672, rfl, ho0, hb⟩; refine ⟨_, rfl, ?_⟩; have HO673 := zk (Kd.N_lower (Kd.N_mono (ok' := fun k_ => (w.heap.size ≤ k_) ∧ some k_ ≠ (.slice (some ad669) t666.length co13 : Value).ownBlock) ho0 (fun k_ hk_ => ⟨(Nat.le_trans (below_size (zB HB)) hk_), (Kd.fresh' (Kd.N_lt (zN HO_7)) k_ hk_)⟩)) (below_size (zB HB))); replace HO_7 := zk (Kd.N_elder' (zN HO_7) (by first | exact Kd.N_base ho0 | exact Kd.S_base ho0 | exact Kd.R_base ho0) hb); replace HO_8 := zk (Kd.V_elder' (zV HO_8) (by first | exact Kd.N_base ho0 | exact Kd.S_base ho0 | exact Kd.R_base ho0) hb); replace HL670_0 := zk (Kd.V_elder' (zV HL670_0) (by first | exact Kd.N_base ho0 | exact Kd.S_base ho0 | exact Kd.R_base ho0) hb); replace HR669_0 := zk (Kd.C_below (zC HR669_0.out) hb); replace HR670_0 := zk (Kd.C_below (zC HR670_0.out) hb); replace HB := zF HB hb; (try clear hb ho0); obtain ⟨Ao19, co19, eo19⟩ := Kd.N_slice HO673.out; subst eo19; have p674 : 0 ≤ (x10_2 : Int) := zo (by assumption); have q674 : x10_2 < (t666.length : Int) := zo (by assumption); obtain ⟨ad674, A674_0, c674_0, e674, hx674_0, hl674_0, hi674_0⟩ := at_L2 (Kd.N_reads' HO_7.out).2.2 x10_2 p674 q674; obtain rfl : ad669 = ad674 := (by injection e674); obtain ⟨ce674, hce674, hMe674, hcc674⟩ := Kd.N_get HO_7.out [] x10_2 p674 (by first | exact q674 | exact zo (by assumption) | (have e_ := (Kd.N_reads' HO_7.out).1; omega)); obtain ⟨ua674_0, uc674_0, rfl, ul674_0, ge674_0⟩ := Kd.FK_slice_open hMe674; have hv674_0 := hcc674 0 _ rfl; rw [Nat.add_zero, show ((Kd.slice 3 (Kd.int .i64))).sz = 1 from rfl, Nat.mul_one] at hv674_0; replace hv674_0 := Option.some.inj (hv674_0.symm.trans hx674_0); injection hv674_0 with hva_ hvn_ hvc_; rw [hva_] at ge674_0; rw [hvc_] at ul674_0; have HL674_0 := zk (show Kd.V (Kd.int .i64) 3 _ w.heap.size _ _ (rd_L2 t666 x10_2) from Kd.V_mk ul674_0 ge674_0); clear hva_ hvn_ hvc_ ge674_0 ul674_0; clear hcc674 hce674; have HR674_0 := zk hi674_0; have HC674_0 := zk hl674_0; clear hi674_0 hl674_0; replace p674 := eq_true p674; replace q674 := eq_true q674))
       go_roundg k2
       case measure => have := HJ2.out; have := HK2.out; omega
       case rel => exact ⟨(rd_L2 t666 x10_2), ((t671.length : Int)), (wrap64 (x10_2 + 1)), (by first | rfl | (simp; done) | (simp [*]; done)), (by first | rfl | (simp; done) | (simp [*]; done)), H', ⟨by have := HJ2.out; have := HK2.out; omega⟩, ⟨by (with_reducible repeat (first | apply Kd.N_alloc | apply Kd.N_drewN | apply Kd.N_drew)); exact Kd.N_mono HO_7.out (fun _ hk => hk.1)⟩, ⟨by (with_reducible repeat (first | apply Kd.V_alloc | apply Kd.V_drewN | apply Kd.V_drew)); exact Kd.V_mono HL674_0.out (fun _ hk => ⟨hk.1.1, hk.2⟩)⟩, ⟨by repeat (first | (with_reducible exact HR669_0.out) | (with_reducible refine zv ?_ _) | (with_reducible refine zu ?_ _) | (with_reducible refine zw ?_) | exact HR669_0.out)⟩, ⟨by repeat (first | exact HB.out | apply za | apply zd | apply ze)⟩⟩
   subst c7
   have H1 : (some ((([] : List Int)), 0, false)) = some (r1, r2, r3) := by rw [if_pos rfl] at H; exact H
   clear H
   have H := H1
   clear H1
   obtain ⟨y663, hy663⟩ : ∃ y_ : List Int, y_ = (([] : List Int)) := ⟨_, rfl⟩
   replace H : (some (y663, 0, false)) = some (r1, r2, r3) := by first | (rw [hy663]; with_reducible exact H) | (have H2_ := (Option.bind_some _ _).symm.trans H; rw [hy663]; with_reducible exact H2_) | (have H2_ := (Option.bind_some _ _).symm.trans H; with_reducible exact H2_) | with_reducible exact H | (rw [hy663]; exact H) | exact H
   have Ny663 := zk hy663
   clear hy663
   simp only [Option.some.injEq, Prod.mk.injEq] at H
   obtain ⟨rfl, rfl, rfl⟩ := H
   go_wp2_with (first | ((with_reducible refine gate_dst (N := 20) rfl ?_); refine zL 20 3 [] (Below.refl _ _) (Nat.le_refl _) ?_; intro v664 w8 ho9 hb hg_ hnew_; clear hg_ hnew_; (first | rw [← Ny663.out] at ho9 | (simp only [Int.reduceToNat] at ho9; rw [← Ny663.out] at ho9)); have HO665 := zk (Kd.R_lower (Kd.R_newM (M := fun k_ => (w.heap.size ≤ k_)) ho9 (below_size (zB HB)) (fun k_ h_ => h_)) (below_size (zB HB))); replace HB := zF HB hb; clear hb ho9))
   go_ret3
   exact ⟨_, by first | rfl | (simp [errW_none, errW_some] <;> rfl) | (simp [*, errW_none, errW_some] <;> rfl), Kd.R_V (by (with_reducible repeat (first | apply zs | apply zr | apply zt)); exact Kd.R_mono HO665.out (fun _ hk => hk.1)), by repeat (first | exact HB.out | apply za | apply zd | apply ze)⟩

/-! ### laws_vInts: function 125 -/
def laws_vInts.l0 : Nat → List Int → List Int → Int → Option (Bool)
 | 0, _, _, _ => none
 | k + 1, x0, x1, x5 => if x5 < (x0.length : Int) then (if 0 ≤ x5 then (if x5 < (x1.length : Int) then (if (rd x0 x5) = (rd x1 x5) then (laws_vInts.l0 k x0 x1 (wrap64 (x5 + 1))) else (some false)) else (none)) else (none)) else (some true)
def laws_vInts.f (k : Nat) (l0 : List Int) (l1 : List Int) : Option (Bool) := if (l0.length : Int) = (l1.length : Int) then (laws_vInts.l0 k l0 l1 0) else (some false)
set_option maxHeartbeats 8000000 in
set_option maxRecDepth 100000 in
theorem laws_vInts.calls (k : Nat) (A0 : Option Addr) (c0 : Nat) (l0 : List Int) (A1 : Option Addr) (c1 : Nat) (l1 : List Int) (r : Bool) (w : World) (hr0 : Kd.C (Kd.int .i64) w A0 l0.length l0) (hc0 : l0.length ≤ c0) (hr1 : Kd.C (Kd.int .i64) w A1 l1.length l1) (hc1 : l1.length ≤ c1) (h : laws_vInts.f k l0 l1 = some r) :
 Calls Try.prog 125 #[.slice A0 l0.length c0, .slice A1 l1.length c1] w fun e w' => e = .returned (.bool r) ∧ Drawn0 w w' := by
 have HR0 := zk hr0
 have HC0 := zk hc0
 clear hr0 hc0
 have HR1 := zk hr1
 have HC1 := zk hc1
 clear hr1 hc1
 have H := h
 unfold laws_vInts.f at H
 clear h
 by_cases c3 : (l0.length : Int) = (l1.length : Int)
 rotate_left
 · rw [if_neg c3] at H
   have c3b0 : ((l0.length : Int) == (l1.length : Int)) = false := beq_eq_false_iff_ne.mpr c3
   have c3b1 : ((l0.length : Int) != (l1.length : Int)) = true := bne_iff_ne.mpr c3
   have c3b2 : (l0.length == l1.length) = false := by first | simpa using c3 | (simp at c3 ⊢; omega)
   obtain rfl := Option.some.inj H
   go_enter Try.func125, Try.ntmps125
   go_wp2
   repeat (go_quiet (fail); try go_wp2)
   go_ret
   exact ⟨zX, zD⟩
 rw [if_pos c3] at H
 have c3b0 : ((l0.length : Int) == (l1.length : Int)) = true := beq_iff_eq.mpr c3
 have c3b1 : ((l0.length : Int) != (l1.length : Int)) = false := bne_eq_false_iff_eq.mpr c3
 have c3b2 : (l0.length == l1.length) = true := by first | simpa using c3 | (simp at c3 ⊢; omega)
 clear c3
 have H' := zk H
 clear H
 go_enter Try.func125, Try.ntmps125
 go_wp2
 repeat (go_quiet (fail); try go_wp2)
 go_loopg [5] k (fun kq v5 w' => ∃ (x5_1 : Int), v5 = .int .i64 x5_1 ∧ Aside0 (laws_vInts.l0 kq l0 l1 x5_1 = some r) ∧ Aside0 (kq ≤ k) ∧ Drawn0 w w')
 case atStart => exact ⟨(0), (by first | rfl | (simp; done) | (simp [*]; done)), H', ⟨Nat.le_refl _⟩, zD⟩
 case round =>
  clear H'
  try clear c1
  try clear p2
  try clear c3
  try clear c3b0
  try clear c3b1
  try clear c3b2
  obtain ⟨x5_1, rfl, HA, HK1, ⟨m1, rfl⟩⟩ := hrel
  cases gk with
  | zero => exact absurd HA.out (by simp [laws_vInts.l0])
  | succ k1 =>
   have H := HA.out
   clear HA
   simp only [laws_vInts.l0] at H
   by_cases c4 : x5_1 < (l0.length : Int)
   rotate_left
   · rw [if_neg c4] at H
     have c4b0 := decide_eq_false c4
     clear c4
     obtain rfl := Option.some.inj H
     go_wp2
     repeat (go_quiet (fail); try go_wp2)
     go_ret
     exact ⟨zX, zD⟩
   rw [if_pos c4] at H
   have c4b0 := decide_eq_true c4
   clear c4
   by_cases c5 : 0 ≤ x5_1
   rotate_left
   · rw [if_neg c5] at H
     exact absurd H (by simp)
   rw [if_pos c5] at H
   have c5b0 := decide_eq_true c5
   clear c5
   by_cases c6 : x5_1 < (l1.length : Int)
   rotate_left
   · rw [if_neg c6] at H
     exact absurd H (by simp)
   rw [if_pos c6] at H
   have c6b0 := decide_eq_true c6
   clear c6
   by_cases c7 : (rd l0 x5_1) = (rd l1 x5_1)
   rotate_left
   · rw [if_neg c7] at H
     have c7b0 : ((rd l0 x5_1) == (rd l1 x5_1)) = false := beq_eq_false_iff_ne.mpr c7
     have c7b1 : ((rd l0 x5_1) != (rd l1 x5_1)) = true := bne_iff_ne.mpr c7
     obtain rfl := Option.some.inj H
     have p675 : 0 ≤ (x5_1 : Int) := zo (by assumption)
     have q675 : x5_1 < (l0.length : Int) := zo (by assumption)
     obtain ⟨ad675, e675, hx675_0⟩ := Kd.at_int HR0.out x5_1 p675 q675
     cases e675
     replace p675 := eq_true p675
     replace q675 := eq_true q675
     have p676 : 0 ≤ (x5_1 : Int) := zo (by assumption)
     have q676 : x5_1 < (l1.length : Int) := zo (by assumption)
     obtain ⟨ad676, e676, hx676_0⟩ := Kd.at_int HR1.out x5_1 p676 q676
     cases e676
     replace p676 := eq_true p676
     replace q676 := eq_true q676
     go_wp2
     repeat (go_quiet (fail); try go_wp2)
     go_ret
     exact ⟨zX, zD⟩
   rw [if_pos c7] at H
   have c7b0 : ((rd l0 x5_1) == (rd l1 x5_1)) = true := beq_iff_eq.mpr c7
   have c7b1 : ((rd l0 x5_1) != (rd l1 x5_1)) = false := bne_eq_false_iff_eq.mpr c7
   clear c7
   have H' := zk H
   clear H
   have p675 : 0 ≤ (x5_1 : Int) := zo (by assumption)
   have q675 : x5_1 < (l0.length : Int) := zo (by assumption)
   obtain ⟨ad675, e675, hx675_0⟩ := Kd.at_int HR0.out x5_1 p675 q675
   cases e675
   replace p675 := eq_true p675
   replace q675 := eq_true q675
   have p676 : 0 ≤ (x5_1 : Int) := zo (by assumption)
   have q676 : x5_1 < (l1.length : Int) := zo (by assumption)
   obtain ⟨ad676, e676, hx676_0⟩ := Kd.at_int HR1.out x5_1 p676 q676
   cases e676
   replace p676 := eq_true p676
   replace q676 := eq_true q676
   go_wp2
   repeat (go_quiet (fail); try go_wp2)
   go_roundg k1
   case measure => have := HK1.out; omega
   case rel => exact ⟨(wrap64 (x5_1 + 1)), (by first | rfl | (simp; done) | (simp [*]; done)), H', ⟨by have := HK1.out; omega⟩, zD⟩

end Go.Proofs.Ytlkddcabjcejdaa.MFnAvoiding
