/- Functions that FnAvoiding comes to, a walk for each: by wip/tools/mk.py and post.py. No condition. -/
import Derived.Test.YtlkddcabjcejdaaMFnAvoidingx0
import Derived.Test.YtlkddcabjcejdaaMFnAvoidingx3
import Derived.Test.YtlkddcabjcejdaaMFnAvoidingx6
import Derived.Test.YtlkddcabjcejdaaMFnAvoidingx7
import Derived.Test.YtlkddcabjcejdaaMFnAvoidingx8
namespace Go.Proofs.Ytlkddcabjcejdaa.MFnAvoiding
open Go.RowKit Go.Proofs.YtlkddcabjcejdaaW.PrintWords Go.Proofs.YtlkddcabjcejdaaW.PrintLast Go.Proofs.YtlkddcabjcejdaaW.PrintMore
attribute [local go_sem] max2_int min2_int max_two min_two max_three min_three max_four min_four
set_option linter.unusedVariables false
set_option linter.unusedSimpArgs false

/-! ### spec_l3In: function 240 -/
def spec_l3In.f (k : Nat) (l0 : List Int) (l1 : List Int) : Option (Bool) := (spec_l3Goes.f k l0 l1 (([] : List Int)) 0).bind fun t383 => (some t383)
set_option maxHeartbeats 8000000 in
set_option maxRecDepth 100000 in
theorem spec_l3In.calls (k : Nat) (A0 : Option Addr) (c0 : Nat) (l0 : List Int) (A1 : Option Addr) (c1 : Nat) (l1 : List Int) (r : Bool) (w : World) (hr0 : Kd.C (Kd.int .i64) w A0 l0.length l0) (hc0 : l0.length ≤ c0) (hr1 : Kd.C (Kd.int .i64) w A1 l1.length l1) (hc1 : l1.length ≤ c1) (h : spec_l3In.f k l0 l1 = some r) :
 Calls Try.prog 240 #[.slice A0 l0.length c0, .slice A1 l1.length c1] w fun e w' => e = .returned (.bool r) ∧ Below w.heap.size w w' := by
 have HR0 := zk hr0
 have HC0 := zk hc0
 clear hr0 hc0
 have HR1 := zk hr1
 have HC1 := zk hc1
 clear hr1 hc1
 have HB := zk (Below.refl w.heap.size w)
 have H : ((spec_l3Goes.f k l0 l1 (([] : List Int)) 0).bind fun t383 => (some t383)) = some r := h
 clear h
 obtain ⟨y380, hy380⟩ : ∃ y_ : List Int, y_ = (([] : List Int)) := ⟨_, rfl⟩
 replace H : ((spec_l3Goes.f k l0 l1 y380 0).bind fun t383 => (some t383)) = some r := by first | (rw [hy380]; with_reducible exact H) | (have H2_ := (Option.bind_some _ _).symm.trans H; rw [hy380]; with_reducible exact H2_) | (have H2_ := (Option.bind_some _ _).symm.trans H; with_reducible exact H2_) | with_reducible exact H | (rw [hy380]; exact H) | exact H
 have Ny380 := zk hy380
 clear hy380
 replace H := Option.bind_eq_some_iff.mp H
 obtain ⟨t383, A30, H⟩ := H
 try dsimp only at H
 have A3 := zk A30
 clear A30
 obtain rfl := Option.some.inj H
 go_enter Try.func240, Try.ntmps240
 go_wp2_with (first | ((with_reducible refine gate_dst (N := 7) rfl ?_); refine zL 7 3 [] (Below.refl _ _) (Nat.le_refl _) ?_; intro v381 w4 ho5 hb hg_ hnew_; clear hg_ hnew_; (first | rw [← Ny380.out] at ho5 | (simp only [Int.reduceToNat] at ho5; rw [← Ny380.out] at ho5)); have HO382 := zk (Kd.R_lower ho5 (below_size (zB HB))); replace HB := zF HB hb; clear hb ho5; obtain ⟨Ao6, co6, eo6⟩ := Kd.R_slice HO382.out; subst eo6) | ((with_reducible refine gate_callee (f := 265) rfl ?_); refine zG (some 8) Try.func265 #[.slice A0 l0.length c0, .slice A1 l1.length c1, .slice Ao6 y380.length co6, .int .i64 0] ?_; (with_reducible refine (spec_l3Goes.calls k _ _ l0 _ _ l1 _ _ y380 0 t383 _ ?side1 ?side2 ?side3 ?side4 ?side5 ?side6 A3.out).mono ?_); (case side1 => exact zC (Kd.C_below HR0.out HB.out)); (case side2 => exact HC0.out); (case side3 => exact zC (Kd.C_below HR1.out HB.out)); (case side4 => exact HC1.out); (case side5 => exact zC (Kd.R_reads' HO382.out).2.2); (case side6 => exact (Kd.R_reads' HO382.out).2.1); rintro e w7 ⟨rfl, hb⟩; refine ⟨_, rfl, ?_⟩; replace HO382 := zk (Kd.R_below (zR HO382) hb); replace HB := zF HB hb; (try clear hb); (try clear hb2); (try clear hk); (try clear hi)))
 go_ret
 exact ⟨by first | rfl | (simp [errW_none, errW_some] <;> rfl) | (simp [*, errW_none, errW_some] <;> rfl), by repeat (first | exact HB.out | apply za | apply zd | apply ze)⟩

/-! ### spec_l3Avoids: function 231 -/
def spec_l3Avoids.l0 : Nat → List Int → List (List Int) → Int → Option (Bool)
 | 0, _, _, _ => none
 | k + 1, x0, x1, x5 => if x5 < (x1.length : Int) then (if 0 ≤ x5 then ((spec_l3In.f k x0 (rd_L2 x1 x5)).bind fun t385 => (if t385 = true then (some false) else (spec_l3Avoids.l0 k x0 x1 (wrap64 (x5 + 1))))) else (none)) else (some true)
def spec_l3Avoids.f (k : Nat) (l0 : List Int) (l1 : List (List Int)) : Option (Bool) := spec_l3Avoids.l0 k l0 l1 0
set_option maxHeartbeats 8000000 in
set_option maxRecDepth 100000 in
theorem spec_l3Avoids.calls (k : Nat) (A0 : Option Addr) (c0 : Nat) (l0 : List Int) (A1 : Option Addr) (c1 : Nat) (l1 : List (List Int)) (r : Bool) (w : World) (hr0 : Kd.C (Kd.int .i64) w A0 l0.length l0) (hc0 : l0.length ≤ c0) (hr1 : Kd.C (Kd.slice 3 (Kd.int .i64)) w A1 l1.length l1) (hc1 : l1.length ≤ c1) (h : spec_l3Avoids.f k l0 l1 = some r) :
 Calls Try.prog 231 #[.slice A0 l0.length c0, .slice A1 l1.length c1] w fun e w' => e = .returned (.bool r) ∧ Below w.heap.size w w' := by
 have HR0 := zk hr0
 have HC0 := zk hc0
 clear hr0 hc0
 have HR1 := zk hr1
 have HC1 := zk hc1
 clear hr1 hc1
 have HB := zk (Below.refl w.heap.size w)
 have H : (spec_l3Avoids.l0 k l0 l1 0) = some r := h
 clear h
 have H' := zk H
 clear H
 go_enter Try.func231, Try.ntmps231
 go_wp2
 go_loopg [5] k (fun kq v5 w' => ∃ (x5_1 : Int), v5 = .int .i64 x5_1 ∧ Aside0 (spec_l3Avoids.l0 kq l0 l1 x5_1 = some r) ∧ Aside0 (kq ≤ k) ∧ Aside0 (Below w.heap.size w w'))
 case atStart => exact ⟨(0), (by first | rfl | (simp; done) | (simp [*]; done)), H', ⟨Nat.le_refl _⟩, ⟨by repeat (first | exact HB.out | apply za | apply zd | apply ze)⟩⟩
 case round =>
  clear H'
  try clear c1
  try clear c2
  try clear p2
  obtain ⟨x5_1, rfl, HA, HK1, HB⟩ := hrel
  cases gk with
  | zero => exact absurd HA.out (by simp [spec_l3Avoids.l0])
  | succ k1 =>
   have H := HA.out
   clear HA
   simp only [spec_l3Avoids.l0] at H
   by_cases c3 : x5_1 < (l1.length : Int)
   rotate_left
   · rw [if_neg c3] at H
     have c3b0 := decide_eq_false c3
     clear c3
     obtain rfl := Option.some.inj H
     go_wp2
     go_ret
     exact ⟨by first | rfl | (simp [errW_none, errW_some] <;> rfl) | (simp [*, errW_none, errW_some] <;> rfl), by repeat (first | exact HB.out | apply za | apply zd | apply ze)⟩
   rw [if_pos c3] at H
   have c3b0 := decide_eq_true c3
   clear c3
   by_cases c4 : 0 ≤ x5_1
   rotate_left
   · rw [if_neg c4] at H
     exact absurd H (by simp)
   rw [if_pos c4] at H
   have c4b0 := decide_eq_true c4
   clear c4
   replace H := Option.bind_eq_some_iff.mp H
   obtain ⟨t385, A50, H⟩ := H
   try dsimp only at H
   have A5 := zk A50
   clear A50
   by_cases c6 : t385 = true
   rotate_left
   · replace c6 := Bool.eq_false_iff.mpr c6
     subst c6
     have H1 : (spec_l3Avoids.l0 k1 l0 l1 (wrap64 (x5_1 + 1))) = some r := by rw [if_neg (show ¬ (false = true) by decide)] at H; exact H
     clear H
     have H := H1
     clear H1
     have H' := zk H
     clear H
     have p384 : 0 ≤ (x5_1 : Int) := zo (by assumption)
     have q384 : x5_1 < (l1.length : Int) := zo (by assumption)
     obtain ⟨ad384, A384_0, c384_0, e384, hx384_0, hl384_0, hi384_0⟩ := at_L2 HR1.out x5_1 p384 q384
     cases e384
     replace hx384_0 := (HB.out.cell (World.block_lt_of_cell? w _ hx384_0)).trans hx384_0
     have HR384_0 := zk hi384_0
     have HC384_0 := zk hl384_0
     clear hi384_0 hl384_0
     replace p384 := eq_true p384
     replace q384 := eq_true q384
     go_wp2_with (first | ((with_reducible refine gate_callee (f := 240) rfl ?_); refine zG (some 17) Try.func240 #[.slice A0 l0.length c0, .slice A384_0 (rd_L2 l1 x5_1).length c384_0] ?_; (with_reducible refine (spec_l3In.calls k1 _ _ l0 _ _ (rd_L2 l1 x5_1) false _ ?side1 ?side2 ?side3 ?side4 A5.out).mono ?_); (case side1 => exact zC (Kd.C_below HR0.out HB.out)); (case side2 => exact HC0.out); (case side3 => exact zC (Kd.C_below HR384_0.out HB.out)); (case side4 => exact HC384_0.out); rintro e w8 ⟨rfl, hb⟩; refine ⟨_, rfl, ?_⟩; replace HB := zF HB hb; (try clear hb); (try clear hb2); (try clear hk); (try clear hi)))
     go_roundg k1
     case measure => have := HK1.out; omega
     case rel => exact ⟨(wrap64 (x5_1 + 1)), (by first | rfl | (simp; done) | (simp [*]; done)), H', ⟨by have := HK1.out; omega⟩, ⟨by repeat (first | exact HB.out | apply za | apply zd | apply ze)⟩⟩
   subst c6
   have H1 : (some false) = some r := by rw [if_pos rfl] at H; exact H
   clear H
   have H := H1
   clear H1
   obtain rfl := Option.some.inj H
   have p384 : 0 ≤ (x5_1 : Int) := zo (by assumption)
   have q384 : x5_1 < (l1.length : Int) := zo (by assumption)
   obtain ⟨ad384, A384_0, c384_0, e384, hx384_0, hl384_0, hi384_0⟩ := at_L2 HR1.out x5_1 p384 q384
   cases e384
   replace hx384_0 := (HB.out.cell (World.block_lt_of_cell? w _ hx384_0)).trans hx384_0
   have HR384_0 := zk hi384_0
   have HC384_0 := zk hl384_0
   clear hi384_0 hl384_0
   replace p384 := eq_true p384
   replace q384 := eq_true q384
   go_wp2_with (first | ((with_reducible refine gate_callee (f := 240) rfl ?_); refine zG (some 17) Try.func240 #[.slice A0 l0.length c0, .slice A384_0 (rd_L2 l1 x5_1).length c384_0] ?_; (with_reducible refine (spec_l3In.calls k1 _ _ l0 _ _ (rd_L2 l1 x5_1) true _ ?side1 ?side2 ?side3 ?side4 A5.out).mono ?_); (case side1 => exact zC (Kd.C_below HR0.out HB.out)); (case side2 => exact HC0.out); (case side3 => exact zC (Kd.C_below HR384_0.out HB.out)); (case side4 => exact HC384_0.out); rintro e w7 ⟨rfl, hb⟩; refine ⟨_, rfl, ?_⟩; replace HB := zF HB hb; (try clear hb); (try clear hb2); (try clear hk); (try clear hi)))
   go_ret
   exact ⟨by first | rfl | (simp [errW_none, errW_some] <;> rfl) | (simp [*, errW_none, errW_some] <;> rfl), by repeat (first | exact HB.out | apply za | apply zd | apply ze)⟩

/-! ### spec_l3Insert: function 232 -/
def spec_l3Insert.l0 : Nat → List Int → Int → List Int → Int → Option (List Int)
 | 0, _, _, _, _ => none
 | k + 1, x0, x1, x5, x6 => if x6 < (x0.length : Int) then (if 0 ≤ x6 then (if (rd x0 x6) ≥ x1 then (if x5.length < 17592186044416 then (spec_l3Insert.l0 k x0 x1 (x5 ++ [wrap64 ((rd x0 x6) + 1)]) (wrap64 (x6 + 1))) else (none)) else (if x5.length < 17592186044416 then (spec_l3Insert.l0 k x0 x1 (x5 ++ [rd x0 x6]) (wrap64 (x6 + 1))) else (none))) else (none)) else (if x5.length < 17592186044416 then (some (x5 ++ [x1])) else (none))
def spec_l3Insert.f (k : Nat) (l0 : List Int) (a1 : Int) : Option (List Int) := spec_l3Insert.l0 k l0 a1 (([] : List Int)) 0
set_option maxHeartbeats 8000000 in
set_option maxRecDepth 100000 in
theorem spec_l3Insert.calls (k : Nat) (A0 : Option Addr) (c0 : Nat) (l0 : List Int) (a1 : Int) (r : List Int) (w : World) (hr0 : Kd.C (Kd.int .i64) w A0 l0.length l0) (hc0 : l0.length ≤ c0) (h : spec_l3Insert.f k l0 a1 = some r) :
 Calls Try.prog 232 #[.slice A0 l0.length c0, .int .i64 a1] w fun e w' => ∃ v0_ : Value, e = .returned (v0_) ∧ Kd.R (Kd.int .i64) 3 w' w.heap.size (fun _ => True) v0_ r ∧ Below w.heap.size w w' := by
 have HR0 := zk hr0
 have HC0 := zk hc0
 clear hr0 hc0
 have HB := zk (Below.refl w.heap.size w)
 have H : (spec_l3Insert.l0 k l0 a1 (([] : List Int)) 0) = some r := h
 clear h
 obtain ⟨y386, hy386⟩ : ∃ y_ : List Int, y_ = (([] : List Int)) := ⟨_, rfl⟩
 replace H : (spec_l3Insert.l0 k l0 a1 y386 0) = some r := by first | (rw [hy386]; with_reducible exact H) | (have H2_ := (Option.bind_some _ _).symm.trans H; rw [hy386]; with_reducible exact H2_) | (have H2_ := (Option.bind_some _ _).symm.trans H; with_reducible exact H2_) | with_reducible exact H | (rw [hy386]; exact H) | exact H
 have Ny386 := zk hy386
 clear hy386
 have H' := zk H
 clear H
 go_enter Try.func232, Try.ntmps232
 go_wp2_with (first | ((with_reducible refine gate_dst (N := 8) rfl ?_); refine zL 8 3 [] (Below.refl _ _) (Nat.le_refl _) ?_; intro v387 w3 ho4 hb hg_ hnew_; clear hg_ hnew_; (first | rw [← Ny386.out] at ho4 | (simp only [Int.reduceToNat] at ho4; rw [← Ny386.out] at ho4)); have HO388 := zk (Kd.R_lower ho4 (below_size (zB HB))); replace HB := zF HB hb; clear hb ho4))
 go_loopg [5, 6] k (fun kq v5 v6 w' => ∃ (x5_1 : List Int) (x6_1 : Int), v6 = .int .i64 x6_1 ∧ Aside0 (spec_l3Insert.l0 kq l0 a1 x5_1 x6_1 = some r) ∧ Aside0 (kq ≤ k) ∧ Aside0 (Kd.R (Kd.int .i64) 3 w' w.heap.size (fun _ => True) v5 x5_1) ∧ Aside0 (Below w.heap.size w w'))
 case atStart => exact ⟨(y386), (0), (by first | rfl | (simp; done) | (simp [*]; done)), H', ⟨Nat.le_refl _⟩, ⟨by (with_reducible repeat (first | apply zs | apply zr | apply zt)); exact HO388.out⟩, ⟨by repeat (first | exact HB.out | apply za | apply zd | apply ze)⟩⟩
 case round =>
  clear H'
  try clear c2
  try clear p2
  obtain ⟨x5_1, x6_1, rfl, HA, HK1, HO_5, HB⟩ := hrel
  cases gk with
  | zero => exact absurd HA.out (by simp [spec_l3Insert.l0])
  | succ k1 =>
   have H := HA.out
   clear HA
   simp only [spec_l3Insert.l0] at H
   by_cases c5 : x6_1 < (l0.length : Int)
   rotate_left
   · rw [if_neg c5] at H
     have c5b0 := decide_eq_false c5
     clear c5
     by_cases c12 : x5_1.length < 17592186044416
     rotate_left
     · rw [if_neg c12] at H
       exact absurd H (by simp)
     rw [if_pos c12] at H
     have LMc12 := zk c12
     clear c12
     obtain ⟨y396, hy396⟩ : ∃ y_ : List Int, y_ = (x5_1 ++ [a1]) := ⟨_, rfl⟩
     replace H : (some y396) = some r := by first | (rw [hy396]; with_reducible exact H) | (have H2_ := (Option.bind_some _ _).symm.trans H; rw [hy396]; with_reducible exact H2_) | (have H2_ := (Option.bind_some _ _).symm.trans H; with_reducible exact H2_) | with_reducible exact H | (rw [hy396]; exact H) | exact H
     have Ny396 := zk hy396
     clear hy396
     obtain rfl := Option.some.inj H
     go_wp2_with (first | ((with_reducible refine gate_builtin (b := .append) (xs := #[.tmp 28, .tmp 30]) rfl ?_); at_builtin; refine Kd.R_append (Kd.int .i64) (w0 := w) w.heap.size rfl (.tmp 28) (.tmp 30) 22 3 (.int .i64 0) 8 rfl Try.underlying22 info3 rfl (by decide) (by omega) u5 x5_1 a1 [.int .i64 a1] (fun _ => True) (fun _ => False) rfl rfl ?aP (fun _ hk => hk.elim) ?aF ?aO ?aB ?aS ?aL ?_; (case aP => exact rfl); (case aB => exact (zB HB)); (case aF => exact (fun _ _ => trivial)); (case aO => exact (zR HO_5)); (case aS => exact (below_size (zB HB))); (case aL => have := LMc12.out; omega); intro v397 w13 ho hb hg hat; rw [← Ny396.out] at ho; have HO398 := zk (ho); replace HB := zk (hb); clear HO_5; clear ho hb hg hat))
     go_ret
     exact ⟨_, by first | rfl | (simp [errW_none, errW_some] <;> rfl) | (simp [*, errW_none, errW_some] <;> rfl), by (with_reducible repeat (first | apply zs | apply zr | apply zt)); exact HO398.out, by repeat (first | exact HB.out | apply za | apply zd | apply ze)⟩
   rw [if_pos c5] at H
   have c5b0 := decide_eq_true c5
   clear c5
   by_cases c6 : 0 ≤ x6_1
   rotate_left
   · rw [if_neg c6] at H
     exact absurd H (by simp)
   rw [if_pos c6] at H
   have c6b0 := decide_eq_true c6
   clear c6
   by_cases c7 : (rd l0 x6_1) ≥ a1
   rotate_left
   · rw [if_neg c7] at H
     have c7b0 := decide_eq_false c7
     clear c7
     by_cases c10 : x5_1.length < 17592186044416
     rotate_left
     · rw [if_neg c10] at H
       exact absurd H (by simp)
     rw [if_pos c10] at H
     have LMc10 := zk c10
     clear c10
     obtain ⟨y393, hy393⟩ : ∃ y_ : List Int, y_ = (x5_1 ++ [rd l0 x6_1]) := ⟨_, rfl⟩
     replace H : (spec_l3Insert.l0 k1 l0 a1 y393 (wrap64 (x6_1 + 1))) = some r := by first | (rw [hy393]; with_reducible exact H) | (have H2_ := (Option.bind_some _ _).symm.trans H; rw [hy393]; with_reducible exact H2_) | (have H2_ := (Option.bind_some _ _).symm.trans H; with_reducible exact H2_) | with_reducible exact H | (rw [hy393]; exact H) | exact H
     have Ny393 := zk hy393
     clear hy393
     have H' := zk H
     clear H
     have p389 : 0 ≤ (x6_1 : Int) := zo (by assumption)
     have q389 : x6_1 < (l0.length : Int) := zo (by assumption)
     obtain ⟨ad389, e389, hx389_0⟩ := Kd.at_int HR0.out x6_1 p389 q389
     cases e389
     replace hx389_0 := (HB.out.cell (World.block_lt_of_cell? w _ hx389_0)).trans hx389_0
     replace p389 := eq_true p389
     replace q389 := eq_true q389
     go_wp2_with (first | ((with_reducible refine gate_builtin (b := .append) (xs := #[.tmp 24, .tmp 26]) rfl ?_); at_builtin; refine Kd.R_append (Kd.int .i64) (w0 := w) w.heap.size rfl (.tmp 24) (.tmp 26) 22 3 (.int .i64 0) 8 rfl Try.underlying22 info3 rfl (by decide) (by omega) u5 x5_1 (rd l0 x6_1) [.int .i64 (rd l0 x6_1)] (fun _ => True) (fun _ => False) rfl rfl ?aP (fun _ hk => hk.elim) ?aF ?aO ?aB ?aS ?aL ?_; (case aP => exact rfl); (case aB => exact (zB HB)); (case aF => exact (fun _ _ => trivial)); (case aO => exact (zR HO_5)); (case aS => exact (below_size (zB HB))); (case aL => have := LMc10.out; omega); intro v394 w11 ho hb hg hat; rw [← Ny393.out] at ho; have HO395 := zk (ho); replace HB := zk (hb); clear HO_5; clear ho hb hg hat))
     go_roundg k1
     case measure => have := HK1.out; omega
     case rel => exact ⟨(y393), (wrap64 (x6_1 + 1)), (by first | rfl | (simp; done) | (simp [*]; done)), H', ⟨by have := HK1.out; omega⟩, ⟨by (with_reducible repeat (first | apply zs | apply zr | apply zt)); exact HO395.out⟩, ⟨by repeat (first | exact HB.out | apply za | apply zd | apply ze)⟩⟩
   rw [if_pos c7] at H
   have c7b0 := decide_eq_true c7
   clear c7
   by_cases c8 : x5_1.length < 17592186044416
   rotate_left
   · rw [if_neg c8] at H
     exact absurd H (by simp)
   rw [if_pos c8] at H
   have LMc8 := zk c8
   clear c8
   obtain ⟨y390, hy390⟩ : ∃ y_ : List Int, y_ = (x5_1 ++ [wrap64 ((rd l0 x6_1) + 1)]) := ⟨_, rfl⟩
   replace H : (spec_l3Insert.l0 k1 l0 a1 y390 (wrap64 (x6_1 + 1))) = some r := by first | (rw [hy390]; with_reducible exact H) | (have H2_ := (Option.bind_some _ _).symm.trans H; rw [hy390]; with_reducible exact H2_) | (have H2_ := (Option.bind_some _ _).symm.trans H; with_reducible exact H2_) | with_reducible exact H | (rw [hy390]; exact H) | exact H
   have Ny390 := zk hy390
   clear hy390
   have H' := zk H
   clear H
   have p389 : 0 ≤ (x6_1 : Int) := zo (by assumption)
   have q389 : x6_1 < (l0.length : Int) := zo (by assumption)
   obtain ⟨ad389, e389, hx389_0⟩ := Kd.at_int HR0.out x6_1 p389 q389
   cases e389
   replace hx389_0 := (HB.out.cell (World.block_lt_of_cell? w _ hx389_0)).trans hx389_0
   replace p389 := eq_true p389
   replace q389 := eq_true q389
   go_wp2_with (first | ((with_reducible refine gate_builtin (b := .append) (xs := #[.tmp 24, .tmp 26]) rfl ?_); at_builtin; refine Kd.R_append (Kd.int .i64) (w0 := w) w.heap.size rfl (.tmp 24) (.tmp 26) 22 3 (.int .i64 0) 8 rfl Try.underlying22 info3 rfl (by decide) (by omega) u5 x5_1 (wrap64 ((rd l0 x6_1) + 1)) [.int .i64 (wrap64 ((rd l0 x6_1) + 1))] (fun _ => True) (fun _ => False) rfl rfl ?aP (fun _ hk => hk.elim) ?aF ?aO ?aB ?aS ?aL ?_; (case aP => exact rfl); (case aB => exact (zB HB)); (case aF => exact (fun _ _ => trivial)); (case aO => exact (zR HO_5)); (case aS => exact (below_size (zB HB))); (case aL => have := LMc8.out; omega); intro v391 w9 ho hb hg hat; rw [← Ny390.out] at ho; have HO392 := zk (ho); replace HB := zk (hb); clear HO_5; clear ho hb hg hat))
   go_roundg k1
   case measure => have := HK1.out; omega
   case rel => exact ⟨(y390), (wrap64 (x6_1 + 1)), (by first | rfl | (simp; done) | (simp [*]; done)), H', ⟨by have := HK1.out; omega⟩, ⟨by (with_reducible repeat (first | apply zs | apply zr | apply zt)); exact HO392.out⟩, ⟨by repeat (first | exact HB.out | apply za | apply zd | apply ze)⟩⟩

/-! ### spec_l3Avoiding: function 226 -/
mutual
def spec_l3Avoiding.l0 : Nat → Int → List (List Int) → List (List Int) → Int → Option ((List (List Int)))
 | 0, _, _, _, _ => none
 | k + 1, x0, x1, x5, x6 => if x6 < x0 then (spec_l3Avoiding.l1 k x0 x1 x5 x6 (([] : List (List Int))) 0) else (some x5)
def spec_l3Avoiding.l1 : Nat → Int → List (List Int) → List (List Int) → Int → List (List Int) → Int → Option ((List (List Int)))
 | 0, _, _, _, _, _, _ => none
 | k + 1, x0, x1, x5, x6, x7, x8 => if x8 < (x5.length : Int) then (spec_l3Avoiding.l2 k x0 x1 x5 x6 x7 x8 1) else (spec_l3Avoiding.l0 k x0 x1 x7 (wrap64 (x6 + 1)))
def spec_l3Avoiding.l2 : Nat → Int → List (List Int) → List (List Int) → Int → List (List Int) → Int → Int → Option ((List (List Int)))
 | 0, _, _, _, _, _, _, _ => none
 | k + 1, x0, x1, x5, x6, x7, x8, x9 => if x9 ≤ (wrap64 (x6 + 1)) then (if 0 ≤ x8 then (if x8 < (x5.length : Int) then ((spec_l3Insert.f k (rd_L2 x5 x8) x9).bind fun t409 => ((spec_l3Avoids.f k t409 x1).bind fun t412 => (if t412 = true then (if x7.length < 5864062014805 then (spec_l3Avoiding.l2 k x0 x1 x5 x6 (x7 ++ [t409]) x8 (wrap64 (x9 + 1))) else (none)) else (spec_l3Avoiding.l2 k x0 x1 x5 x6 x7 x8 (wrap64 (x9 + 1)))))) else (none)) else (none)) else (spec_l3Avoiding.l1 k x0 x1 x5 x6 x7 (wrap64 (x8 + 1)))
end
def spec_l3Avoiding.f (k : Nat) (a0 : Int) (l1 : List (List Int)) : Option ((List (List Int))) := spec_l3Avoiding.l0 k a0 l1 (([(([] : List Int))] : List (List Int))) 0
set_option maxHeartbeats 8000000 in
set_option maxRecDepth 100000 in
theorem spec_l3Avoiding.calls (k : Nat) (a0 : Int) (A1 : Option Addr) (c1 : Nat) (l1 : List (List Int)) (r : List (List Int)) (w : World) (hr1 : Kd.C (Kd.slice 3 (Kd.int .i64)) w A1 l1.length l1) (hc1 : l1.length ≤ c1) (h : spec_l3Avoiding.f k a0 l1 = some r) :
 Calls Try.prog 226 #[.int .i64 a0, .slice A1 l1.length c1] w fun e w' => ∃ v0_ : Value, e = .returned (v0_) ∧ Kd.N (Kd.slice 3 (Kd.int .i64)) 22 w' w.heap.size (fun k_ => (w.heap.size ≤ k_)) v0_ r ∧ Below w.heap.size w w' := by
 have HR1 := zk hr1
 have HC1 := zk hc1
 clear hr1 hc1
 have HB := zk (Below.refl w.heap.size w)
 have H : (spec_l3Avoiding.l0 k a0 l1 (([(([] : List Int))] : List (List Int))) 0) = some r := h
 clear h
 obtain ⟨y399, hy399⟩ : ∃ y_ : List Int, y_ = (([] : List Int)) := ⟨_, rfl⟩
 replace H : (spec_l3Avoiding.l0 k a0 l1 (([y399] : List (List Int))) 0) = some r := by first | (rw [hy399]; with_reducible exact H) | (have H2_ := (Option.bind_some _ _).symm.trans H; rw [hy399]; with_reducible exact H2_) | (have H2_ := (Option.bind_some _ _).symm.trans H; with_reducible exact H2_) | with_reducible exact H | (rw [hy399]; exact H) | exact H
 have Ny399 := zk hy399
 clear hy399
 obtain ⟨y402, hy402⟩ : ∃ y_ : List (List Int), y_ = (([y399] : List (List Int))) := ⟨_, rfl⟩
 replace H : (spec_l3Avoiding.l0 k a0 l1 y402 0) = some r := by first | (rw [hy402]; with_reducible exact H) | (have H2_ := (Option.bind_some _ _).symm.trans H; rw [hy402]; with_reducible exact H2_) | (have H2_ := (Option.bind_some _ _).symm.trans H; with_reducible exact H2_) | with_reducible exact H | (rw [hy402]; exact H) | exact H
 have Ny402 := zk hy402
 clear hy402
 have H' := zk H
 clear H
 go_enter Try.func226, Try.ntmps226
 go_wp2_with (first | ((with_reducible refine gate_dst (N := 11) rfl ?_); refine zL 11 3 [] (Below.refl _ _) (Nat.le_refl _) ?_; intro v400 w3 ho4 hb hg_ hnew_; clear hg_ hnew_; (first | rw [← Ny399.out] at ho4 | (simp only [Int.reduceToNat] at ho4; rw [← Ny399.out] at ho4)); have HO401 := zk (Kd.R_lower (Kd.R_newM (M := fun k_ => (w.heap.size ≤ k_)) ho4 (below_size (zB HB)) (fun k_ h_ => h_)) (below_size (zB HB))); replace HB := zF HB hb; clear hb ho4; obtain ⟨Ao5, co5, eo5⟩ := Kd.R_slice HO401.out; subst eo5) | ((with_reducible refine gate_dst (N := 12) rfl ?_); refine Kd.N_lit (Kd.slice 3 (Kd.int .i64)) _ 22 ?hg (N' := 12) ?hd (xs := ([y399] : List (List Int))) (inner := [.slice Ao5 y399.length co5]) (ok := (fun k_ => (w.heap.size ≤ k_))) (okp := (fun k_ => (w.heap.size ≤ k_))) ?hr ?hp (fun _ hk => hk) ((show ∀ k_, w3.heap.size ≤ k_ → (fun k_ => (w.heap.size ≤ k_)) k_ from fun k_ hk => (Nat.le_trans (below_size (zB HB)) hk)) _ (Nat.le_refl _)) (Below.refl _ _) (Nat.le_refl _) (by simp) ?_; (case hd => rfl); (case hg => rfl); (case hr => first | (go_simp; done) | (go_simp; rfl)); (case hp => exact (Reps.one (show Kd.FK (Kd.slice 3 (Kd.int .i64)) _ _ y399 [.slice Ao5 y399.length co5] from (Kd.FK_slice_mk (Kd.R_reads' (Kd.R_mono (ok' := (fun k_ => (w.heap.size ≤ k_))) (HO401.out) (fun k_ hk => hk.1))).2.1 (Kd.R_F (Kd.R_mono (ok' := (fun k_ => (w.heap.size ≤ k_))) (HO401.out) (fun k_ hk => hk.1))))) (Reps.none _ _))); intro v403 w6 ho7 hb hg_ hnew_; clear hg_ hnew_; (first | rw [← Ny402.out] at ho7 | (simp only [Int.reduceToNat] at ho7; rw [← Ny402.out] at ho7)); have HO404 := zk (Kd.N_lower ho7 (below_size (zB HB))); replace HB := zF HB hb; clear HO401; clear hb ho7))
 go_loopg [5, 6] k (fun kq v5 v6 w' => ∃ (x5_1 : List (List Int)) (x6_1 : Int), v6 = .int .i64 x6_1 ∧ Aside0 (spec_l3Avoiding.l0 kq a0 l1 x5_1 x6_1 = some r) ∧ Aside0 (kq ≤ k) ∧ Aside0 (Kd.N (Kd.slice 3 (Kd.int .i64)) 22 w' w.heap.size (fun k_ => (w.heap.size ≤ k_)) v5 x5_1) ∧ Aside0 (Below w.heap.size w w'))
 case atStart => exact ⟨(y402), (0), (by first | rfl | (simp; done) | (simp [*]; done)), H', ⟨Nat.le_refl _⟩, ⟨by (with_reducible repeat (first | apply Kd.N_alloc | apply Kd.N_drewN | apply Kd.N_drew)); exact HO404.out⟩, ⟨by repeat (first | exact HB.out | apply za | apply zd | apply ze)⟩⟩
 case round =>
  clear H'
  try clear c1
  try clear c2
  try clear p2
  obtain ⟨x5_1, x6_1, rfl, HA, HK1, HO_5, HB⟩ := hrel
  cases gk with
  | zero => exact absurd HA.out (by simp [spec_l3Avoiding.l0])
  | succ k1 =>
   have H := HA.out
   clear HA
   simp only [spec_l3Avoiding.l0] at H
   by_cases c8 : x6_1 < a0
   rotate_left
   · rw [if_neg c8] at H
     have c8b0 := decide_eq_false c8
     clear c8
     obtain rfl := Option.some.inj H
     go_wp2
     go_ret
     exact ⟨_, by first | rfl | (simp [errW_none, errW_some] <;> rfl) | (simp [*, errW_none, errW_some] <;> rfl), by (with_reducible repeat (first | apply Kd.N_alloc | apply Kd.N_drewN | apply Kd.N_drew)); exact HO_5.out, by repeat (first | exact HB.out | apply za | apply zd | apply ze)⟩
   rw [if_pos c8] at H
   have c8b0 := decide_eq_true c8
   clear c8
   obtain ⟨y405, hy405⟩ : ∃ y_ : List (List Int), y_ = (([] : List (List Int))) := ⟨_, rfl⟩
   replace H : (spec_l3Avoiding.l1 k1 a0 l1 x5_1 x6_1 y405 0) = some r := by first | (rw [hy405]; with_reducible exact H) | (have H2_ := (Option.bind_some _ _).symm.trans H; rw [hy405]; with_reducible exact H2_) | (have H2_ := (Option.bind_some _ _).symm.trans H; with_reducible exact H2_) | with_reducible exact H | (rw [hy405]; exact H) | exact H
   have Ny405 := zk hy405
   clear hy405
   have H' := zk H
   clear H
   go_wp2_with (first | ((with_reducible refine gate_dst (N := 18) rfl ?_); refine Kd.N_lit (Kd.slice 3 (Kd.int .i64)) _ 22 ?hg (N' := 18) ?hd (xs := ([] : List (List Int))) (inner := []) (ok := (fun k_ => (w.heap.size ≤ k_) ∧ some k_ ≠ (u5 : Value).ownBlock)) (okp := (fun k_ => (w.heap.size ≤ k_) ∧ some k_ ≠ (u5 : Value).ownBlock)) ?hr ?hp (fun _ hk => hk) ((show ∀ k_, wr.heap.size ≤ k_ → (fun k_ => (w.heap.size ≤ k_) ∧ some k_ ≠ (u5 : Value).ownBlock) k_ from fun k_ hk => ⟨(Nat.le_trans (below_size (zB HB)) hk), Kd.fresh' (Kd.N_lt (zN HO_5)) k_ hk⟩) _ (Nat.le_refl _)) (Below.refl _ _) (Nat.le_refl _) (by simp) ?_; (case hd => rfl); (case hg => rfl); (case hr => first | (go_simp; done) | (go_simp; rfl)); (case hp => exact (Reps.none _ _)); intro v406 w9 ho10 hb hg_ hnew_; clear hg_ hnew_; (first | rw [← Ny405.out] at ho10 | (simp only [Int.reduceToNat] at ho10; rw [← Ny405.out] at ho10)); have HO407 := zk (Kd.N_lower ho10 (below_size (zB HB))); replace HO_5 := zk (Kd.N_elder' (zN HO_5) (by first | exact Kd.N_base ho10 | exact Kd.S_base ho10 | exact Kd.R_base ho10) hb); replace HB := zF HB hb; clear hb ho10))
   go_loopg [7, 8] k1 (fun kq v7 v8 w' => ∃ (x7_2 : List (List Int)) (x8_2 : Int), v8 = .int .i64 x8_2 ∧ Aside0 (spec_l3Avoiding.l1 kq a0 l1 x5_1 x6_1 x7_2 x8_2 = some r) ∧ Aside0 (kq ≤ k1) ∧ Aside0 (Kd.N (Kd.slice 3 (Kd.int .i64)) 22 w' w.heap.size (fun k_ => (w.heap.size ≤ k_) ∧ some k_ ≠ (v7 : Value).ownBlock) u5 x5_1) ∧ Aside0 (Kd.N (Kd.slice 3 (Kd.int .i64)) 22 w' w.heap.size (fun k_ => (w.heap.size ≤ k_) ∧ some k_ ≠ (u5 : Value).ownBlock) v7 x7_2) ∧ Aside0 (Below w.heap.size w w'))
   case atStart => exact ⟨(y405), (0), (by first | rfl | (simp; done) | (simp [*]; done)), H', ⟨Nat.le_refl _⟩, ⟨by (with_reducible repeat (first | apply Kd.N_alloc | apply Kd.N_drewN | apply Kd.N_drew)); exact HO_5.out⟩, ⟨by (with_reducible repeat (first | apply Kd.N_alloc | apply Kd.N_drewN | apply Kd.N_drew)); exact HO407.out⟩, ⟨by repeat (first | exact HB.out | apply za | apply zd | apply ze)⟩⟩
   case round =>
    clear H'
    try clear c1
    try clear c2
    try clear p2
    try clear c8
    try clear c8b0
    try clear p2
    obtain ⟨x7_2, x8_2, rfl, HA, HK2, HO_5, HO_7, HB⟩ := hrel
    cases gk with
    | zero => exact absurd HA.out (by simp [spec_l3Avoiding.l1])
    | succ k2 =>
     have H := HA.out
     clear HA
     simp only [spec_l3Avoiding.l1] at H
     by_cases c11 : x8_2 < (x5_1.length : Int)
     rotate_left
     · rw [if_neg c11] at H
       have c11b0 := decide_eq_false c11
       clear c11
       have H' := zk H
       clear H
       obtain ⟨Ao27, co27, eo27⟩ := Kd.N_slice HO_5.out
       subst eo27
       go_wp2
       go_roundg k2
       case measure => have := HK1.out; have := HK2.out; omega
       case rel => exact ⟨(x7_2), (wrap64 (x6_1 + 1)), (by first | rfl | (simp; done) | (simp [*]; done)), H', ⟨by have := HK1.out; have := HK2.out; omega⟩, ⟨by (with_reducible repeat (first | apply Kd.N_alloc | apply Kd.N_drewN | apply Kd.N_drew)); exact Kd.N_mono HO_7.out (fun _ hk => hk.1)⟩, ⟨by repeat (first | exact HB.out | apply za | apply zd | apply ze)⟩⟩
     rw [if_pos c11] at H
     have c11b0 := decide_eq_true c11
     clear c11
     have H' := zk H
     clear H
     obtain ⟨Ao12, co12, eo12⟩ := Kd.N_slice HO_5.out
     subst eo12
     go_wp2
     go_loopg [7, 9] k2 (fun kq v7 v9 w' => ∃ (x7_3 : List (List Int)) (x9_3 : Int), v9 = .int .i64 x9_3 ∧ Aside0 (spec_l3Avoiding.l2 kq a0 l1 x5_1 x6_1 x7_3 x8_2 x9_3 = some r) ∧ Aside0 (kq ≤ k2) ∧ Aside0 (Kd.N (Kd.slice 3 (Kd.int .i64)) 22 w' w.heap.size (fun k_ => (w.heap.size ≤ k_) ∧ some k_ ≠ (v7 : Value).ownBlock) (.slice Ao12 x5_1.length co12) x5_1) ∧ Aside0 (Kd.N (Kd.slice 3 (Kd.int .i64)) 22 w' w.heap.size (fun k_ => (w.heap.size ≤ k_) ∧ some k_ ≠ ((.slice Ao12 x5_1.length co12) : Value).ownBlock) v7 x7_3) ∧ Aside0 (Below w.heap.size w w'))
     case atStart => exact ⟨(x7_2), (1), (by first | rfl | (simp; done) | (simp [*]; done)), H', ⟨Nat.le_refl _⟩, ⟨by (with_reducible repeat (first | apply Kd.N_alloc | apply Kd.N_drewN | apply Kd.N_drew)); exact HO_5.out⟩, ⟨by (with_reducible repeat (first | apply Kd.N_alloc | apply Kd.N_drewN | apply Kd.N_drew)); exact HO_7.out⟩, ⟨by repeat (first | exact HB.out | apply za | apply zd | apply ze)⟩⟩
     case round =>
      clear H'
      try clear c1
      try clear c2
      try clear p2
      try clear c8
      try clear c8b0
      try clear c11
      try clear c11b0
      try clear p2
      obtain ⟨x7_3, x9_3, rfl, HA, HK3, HO_5, HO_7, HB⟩ := hrel
      cases gk with
      | zero => exact absurd HA.out (by simp [spec_l3Avoiding.l2])
      | succ k3 =>
       have H := HA.out
       clear HA
       simp only [spec_l3Avoiding.l2] at H
       by_cases c13 : x9_3 ≤ (wrap64 (x6_1 + 1))
       rotate_left
       · rw [if_neg c13] at H
         have c13b0 := decide_eq_false c13
         clear c13
         have H' := zk H
         clear H
         go_wp2
         go_roundg k3
         case measure => have := HK1.out; have := HK2.out; have := HK3.out; omega
         case rel => exact ⟨(x7_3), (wrap64 (x8_2 + 1)), (by first | rfl | (simp; done) | (simp [*]; done)), H', ⟨by have := HK1.out; have := HK2.out; have := HK3.out; omega⟩, ⟨by (with_reducible repeat (first | apply Kd.N_alloc | apply Kd.N_drewN | apply Kd.N_drew)); exact HO_5.out⟩, ⟨by (with_reducible repeat (first | apply Kd.N_alloc | apply Kd.N_drewN | apply Kd.N_drew)); exact HO_7.out⟩, ⟨by repeat (first | exact HB.out | apply za | apply zd | apply ze)⟩⟩
       rw [if_pos c13] at H
       have c13b0 := decide_eq_true c13
       clear c13
       by_cases c14 : 0 ≤ x8_2
       rotate_left
       · rw [if_neg c14] at H
         exact absurd H (by simp)
       rw [if_pos c14] at H
       have c14b0 := decide_eq_true c14
       clear c14
       by_cases c15 : x8_2 < (x5_1.length : Int)
       rotate_left
       · rw [if_neg c15] at H
         exact absurd H (by simp)
       rw [if_pos c15] at H
       have c15b0 := decide_eq_true c15
       clear c15
       replace H := Option.bind_eq_some_iff.mp H
       obtain ⟨t409, A160, H⟩ := H
       try dsimp only at H
       have A16 := zk A160
       clear A160
       replace H := Option.bind_eq_some_iff.mp H
       obtain ⟨t412, A170, H⟩ := H
       try dsimp only at H
       have A17 := zk A170
       clear A170
       by_cases c18 : t412 = true
       rotate_left
       · replace c18 := Bool.eq_false_iff.mpr c18
         subst c18
         have H1 : (spec_l3Avoiding.l2 k3 a0 l1 x5_1 x6_1 x7_3 x8_2 (wrap64 (x9_3 + 1))) = some r := by rw [if_neg (show ¬ (false = true) by decide)] at H; exact H
         clear H
         have H := H1
         clear H1
         have H' := zk H
         clear H
         have p408 : 0 ≤ (x8_2 : Int) := zo (by assumption)
         have q408 : x8_2 < (x5_1.length : Int) := zo (by assumption)
         obtain ⟨ad408, A408_0, c408_0, e408, hx408_0, hl408_0, hi408_0⟩ := at_L2 (Kd.N_reads' HO_5.out).2.2 x8_2 p408 q408
         cases e408
         obtain ⟨ce408, hce408, hMe408, hcc408⟩ := Kd.N_get HO_5.out [] x8_2 p408 (by first | exact q408 | exact zo (by assumption) | (have e_ := (Kd.N_reads' HO_5.out).1; omega))
         obtain ⟨ua408_0, uc408_0, rfl, ul408_0, ge408_0⟩ := Kd.FK_slice_open hMe408
         have hv408_0 := hcc408 0 _ rfl
         rw [Nat.add_zero, show ((Kd.slice 3 (Kd.int .i64))).sz = 1 from rfl, Nat.mul_one] at hv408_0
         replace hv408_0 := Option.some.inj (hv408_0.symm.trans hx408_0)
         injection hv408_0 with hva_ hvn_ hvc_
         rw [hva_] at ge408_0
         rw [hvc_] at ul408_0
         have HL408_0 := zk (show Kd.V (Kd.int .i64) 3 _ w.heap.size _ _ (rd_L2 x5_1 x8_2) from Kd.V_mk ul408_0 ge408_0)
         clear hva_ hvn_ hvc_ ge408_0 ul408_0
         clear hcc408 hce408
         have HR408_0 := zk hi408_0
         have HC408_0 := zk hl408_0
         clear hi408_0 hl408_0
         replace p408 := eq_true p408
         replace q408 := eq_true q408
         go_wp2_with (first | ((with_reducible refine gate_callee (f := 232) rfl ?_); refine zG (some 36) Try.func232 #[.slice A408_0 (rd_L2 x5_1 x8_2).length c408_0, .int .i64 x9_3] ?_; (with_reducible refine (spec_l3Insert.calls k3 _ _ (rd_L2 x5_1 x8_2) x9_3 t409 _ ?side1 ?side2 A16.out).mono ?_); (case side1 => exact zC HR408_0.out); (case side2 => exact HC408_0.out); rintro e w24 ⟨v410, rfl, ho0, hb⟩; refine ⟨_, rfl, ?_⟩; have HO411 := zk (Kd.R_lower (Kd.R_newM (M := fun k_ => (w.heap.size ≤ k_)) ho0 (below_size (zB HB)) (fun k_ h_ => h_)) (below_size (zB HB))); replace HO_5 := zEN HO_5 ho0 hb; replace HO_7 := zEN HO_7 ho0 hb; replace HL408_0 := zk (Kd.V_elder' (zV HL408_0) (Kd.R_base ho0) hb); replace HR408_0 := zk (Kd.C_below (zC HR408_0.out) hb); replace HB := zF HB hb; (try clear hb ho0); obtain ⟨Ao25, co25, eo25⟩ := Kd.R_slice HO411.out; subst eo25) | ((with_reducible refine gate_callee (f := 231) rfl ?_); refine zG (some 39) Try.func231 #[.slice Ao25 t409.length co25, .slice A1 l1.length c1] ?_; (with_reducible refine (spec_l3Avoids.calls k3 _ _ t409 _ _ l1 false _ ?side1 ?side2 ?side3 ?side4 A17.out).mono ?_); (case side1 => exact zC (Kd.R_reads' HO411.out).2.2); (case side2 => exact (Kd.R_reads' HO411.out).2.1); (case side3 => exact zC (Kd.C_below HR1.out HB.out)); (case side4 => exact HC1.out); rintro e w26 ⟨rfl, hb⟩; refine ⟨_, rfl, ?_⟩; replace HO_5 := zk (Kd.N_below (zN HO_5) hb); replace HO_7 := zk (Kd.N_below (zN HO_7) hb); replace HL408_0 := zk (Kd.V_below (zV HL408_0) hb); replace HO411 := zk (Kd.R_below (zR HO411) hb); replace HR408_0 := zk (Kd.C_below (zC HR408_0.out) hb); replace HB := zF HB hb; (try clear hb); (try clear hb2); (try clear hk); (try clear hi)))
         go_roundg k3
         case measure => have := HK1.out; have := HK2.out; have := HK3.out; omega
         case rel => exact ⟨(x7_3), (wrap64 (x9_3 + 1)), (by first | rfl | (simp; done) | (simp [*]; done)), H', ⟨by have := HK1.out; have := HK2.out; have := HK3.out; omega⟩, ⟨by (with_reducible repeat (first | apply Kd.N_alloc | apply Kd.N_drewN | apply Kd.N_drew)); exact Kd.N_mono HO_5.out (fun _ hk => ⟨hk.1.1, hk.1.2⟩)⟩, ⟨by (with_reducible repeat (first | apply Kd.N_alloc | apply Kd.N_drewN | apply Kd.N_drew)); exact Kd.N_mono HO_7.out (fun _ hk => ⟨hk.1.1, hk.1.2⟩)⟩, ⟨by repeat (first | exact HB.out | apply za | apply zd | apply ze)⟩⟩
       subst c18
       have H1 : (if x7_3.length < 5864062014805 then (spec_l3Avoiding.l2 k3 a0 l1 x5_1 x6_1 (x7_3 ++ [t409]) x8_2 (wrap64 (x9_3 + 1))) else (none)) = some r := by rw [if_pos rfl] at H; exact H
       clear H
       have H := H1
       clear H1
       by_cases c19 : x7_3.length < 5864062014805
       rotate_left
       · rw [if_neg c19] at H
         exact absurd H (by simp)
       rw [if_pos c19] at H
       have LMc19 := zk c19
       clear c19
       obtain ⟨y413, hy413⟩ : ∃ y_ : List (List Int), y_ = (x7_3 ++ [t409]) := ⟨_, rfl⟩
       replace H : (spec_l3Avoiding.l2 k3 a0 l1 x5_1 x6_1 y413 x8_2 (wrap64 (x9_3 + 1))) = some r := by first | (rw [hy413]; with_reducible exact H) | (have H2_ := (Option.bind_some _ _).symm.trans H; rw [hy413]; with_reducible exact H2_) | (have H2_ := (Option.bind_some _ _).symm.trans H; with_reducible exact H2_) | with_reducible exact H | (rw [hy413]; exact H) | exact H
       have Ny413 := zk hy413
       clear hy413
       have H' := zk H
       clear H
       have p408 : 0 ≤ (x8_2 : Int) := zo (by assumption)
       have q408 : x8_2 < (x5_1.length : Int) := zo (by assumption)
       obtain ⟨ad408, A408_0, c408_0, e408, hx408_0, hl408_0, hi408_0⟩ := at_L2 (Kd.N_reads' HO_5.out).2.2 x8_2 p408 q408
       cases e408
       obtain ⟨ce408, hce408, hMe408, hcc408⟩ := Kd.N_get HO_5.out [] x8_2 p408 (by first | exact q408 | exact zo (by assumption) | (have e_ := (Kd.N_reads' HO_5.out).1; omega))
       obtain ⟨ua408_0, uc408_0, rfl, ul408_0, ge408_0⟩ := Kd.FK_slice_open hMe408
       have hv408_0 := hcc408 0 _ rfl
       rw [Nat.add_zero, show ((Kd.slice 3 (Kd.int .i64))).sz = 1 from rfl, Nat.mul_one] at hv408_0
       replace hv408_0 := Option.some.inj (hv408_0.symm.trans hx408_0)
       injection hv408_0 with hva_ hvn_ hvc_
       rw [hva_] at ge408_0
       rw [hvc_] at ul408_0
       have HL408_0 := zk (show Kd.V (Kd.int .i64) 3 _ w.heap.size _ _ (rd_L2 x5_1 x8_2) from Kd.V_mk ul408_0 ge408_0)
       clear hva_ hvn_ hvc_ ge408_0 ul408_0
       clear hcc408 hce408
       have HR408_0 := zk hi408_0
       have HC408_0 := zk hl408_0
       clear hi408_0 hl408_0
       replace p408 := eq_true p408
       replace q408 := eq_true q408
       go_wp2_with (first | ((with_reducible refine gate_callee (f := 232) rfl ?_); refine zG (some 36) Try.func232 #[.slice A408_0 (rd_L2 x5_1 x8_2).length c408_0, .int .i64 x9_3] ?_; (with_reducible refine (spec_l3Insert.calls k3 _ _ (rd_L2 x5_1 x8_2) x9_3 t409 _ ?side1 ?side2 A16.out).mono ?_); (case side1 => exact zC HR408_0.out); (case side2 => exact HC408_0.out); rintro e w20 ⟨v410, rfl, ho0, hb⟩; refine ⟨_, rfl, ?_⟩; have HO411 := zk (Kd.R_lower (Kd.R_newM (M := fun k_ => (w.heap.size ≤ k_)) ho0 (below_size (zB HB)) (fun k_ h_ => h_)) (below_size (zB HB))); replace HO_5 := zEN HO_5 ho0 hb; replace HO_7 := zEN HO_7 ho0 hb; replace HL408_0 := zk (Kd.V_elder' (zV HL408_0) (Kd.R_base ho0) hb); replace HR408_0 := zk (Kd.C_below (zC HR408_0.out) hb); replace HB := zF HB hb; (try clear hb ho0); obtain ⟨Ao21, co21, eo21⟩ := Kd.R_slice HO411.out; subst eo21) | ((with_reducible refine gate_callee (f := 231) rfl ?_); refine zG (some 39) Try.func231 #[.slice Ao21 t409.length co21, .slice A1 l1.length c1] ?_; (with_reducible refine (spec_l3Avoids.calls k3 _ _ t409 _ _ l1 true _ ?side1 ?side2 ?side3 ?side4 A17.out).mono ?_); (case side1 => exact zC (Kd.R_reads' HO411.out).2.2); (case side2 => exact (Kd.R_reads' HO411.out).2.1); (case side3 => exact zC (Kd.C_below HR1.out HB.out)); (case side4 => exact HC1.out); rintro e w22 ⟨rfl, hb⟩; refine ⟨_, rfl, ?_⟩; replace HO_5 := zk (Kd.N_below (zN HO_5) hb); replace HO_7 := zk (Kd.N_below (zN HO_7) hb); replace HL408_0 := zk (Kd.V_below (zV HL408_0) hb); replace HO411 := zk (Kd.R_below (zR HO411) hb); replace HR408_0 := zk (Kd.C_below (zC HR408_0.out) hb); replace HB := zF HB hb; (try clear hb); (try clear hb2); (try clear hk); (try clear hi)) | ((with_reducible refine gate_builtin (b := .append) (xs := #[.tmp 40, .tmp 42]) rfl ?_); at_builtin; refine Kd.N_append (Kd.slice 3 (Kd.int .i64)) (w0 := w) w.heap.size rfl (.tmp 40) (.tmp 42) 28 22 (.slice none 0 0) 24 rfl Try.underlying28 info22 rfl (by decide) (by omega) u7 x7_3 t409 [.slice Ao21 t409.length co21] (fun k_ => (w.heap.size ≤ k_) ∧ some k_ ≠ (.slice (some ad408) x5_1.length co12 : Value).ownBlock) (fun k_ => ((fun k_ => (w.heap.size ≤ k_) ∧ some k_ ≠ (.slice (some ad408) x5_1.length co12 : Value).ownBlock)) k_ ∧ some k_ ≠ (u7 : Value).ownBlock) rfl rfl ?aP (fun _ hk => hk) ?aF ?aO ?aB ?aS ?aL ?_; (case aP => exact (Kd.FK_slice_mk (Kd.R_reads' (Kd.R_mono (ok' := (fun k_ => ((fun k_ => (w.heap.size ≤ k_) ∧ some k_ ≠ (.slice (some ad408) x5_1.length co12 : Value).ownBlock)) k_ ∧ some k_ ≠ (u7 : Value).ownBlock)) (Kd.R_apart' (Kd.R_apart' (HO411.out) (Kd.N_typed HO_5.out) (by decide)) (Kd.N_typed HO_7.out) (by decide)) (fun k_ hk => ⟨⟨hk.1.1.1, hk.1.2⟩, hk.2⟩))).2.1 (Kd.R_F (Kd.R_mono (ok' := (fun k_ => ((fun k_ => (w.heap.size ≤ k_) ∧ some k_ ≠ (.slice (some ad408) x5_1.length co12 : Value).ownBlock)) k_ ∧ some k_ ≠ (u7 : Value).ownBlock)) (Kd.R_apart' (Kd.R_apart' (HO411.out) (Kd.N_typed HO_5.out) (by decide)) (Kd.N_typed HO_7.out) (by decide)) (fun k_ hk => ⟨⟨hk.1.1.1, hk.1.2⟩, hk.2⟩))))); (case aB => exact (zB HB)); (case aF => exact (fun k_ hk => ⟨(Nat.le_trans (below_size (zB HB)) hk), Kd.fresh' (Kd.N_lt (zN HO_5)) k_ hk⟩)); (case aO => exact (by (with_reducible repeat (first | apply Kd.N_alloc | apply Kd.N_drewN | apply Kd.N_drew)); exact Kd.N_mono HO_7.out (fun _ hk => ⟨hk.1.1, hk.1.2⟩))); (case aS => exact (below_size (zB HB))); (case aL => have := LMc19.out; omega); intro v414 w23 ho hb hg hat; rw [← Ny413.out] at ho; have HO415 := zk (ho); replace HO_5 := zk (Kd.N_afterv (ok := (fun k_ => (w.heap.size ≤ k_) ∧ some k_ ≠ (.slice Ao21 t409.length co21 : Value).ownBlock)) (by (with_reducible repeat (first | apply Kd.N_alloc | apply Kd.N_drewN | apply Kd.N_drew)); first | exact Kd.N_mono HO_5.out (fun _ hk => ⟨⟨hk.1.1, hk.2⟩, hk.1.2⟩) | exact Kd.N_mono HO_5.out (fun k_ hk => by (have own_ : ∀ (A : Option Addr) (n c : Nat), (Value.slice A n c).ownBlock = A.map Addr.block := fun A n c => by cases A <;> rfl); simp only [own_] at hk ⊢; exact ⟨⟨hk.1.1, hk.2⟩, hk.1.2⟩)) hg hat); replace HL408_0 := zk (Kd.V_afterv (ok := (fun k_ => (w.heap.size ≤ k_) ∧ some k_ ≠ (.slice (some ad408) x5_1.length co12 : Value).ownBlock ∧ some k_ ≠ (.slice Ao21 t409.length co21 : Value).ownBlock)) (by (with_reducible repeat (first | apply Kd.V_alloc | apply Kd.V_drewN | apply Kd.V_drew)); exact Kd.V_mono HL408_0.out (fun _ hk => ⟨⟨hk.1.1.1, ⟨hk.1.2, hk.2⟩⟩, hk.1.1.2⟩)) hg hat); replace HB := zk (hb); clear HO_7 HO411; clear ho hb hg hat))
       go_roundg k3
       case measure => have := HK1.out; have := HK2.out; have := HK3.out; omega
       case rel => exact ⟨(y413), (wrap64 (x9_3 + 1)), (by first | rfl | (simp; done) | (simp [*]; done)), H', ⟨by have := HK1.out; have := HK2.out; have := HK3.out; omega⟩, ⟨by (with_reducible repeat (first | apply Kd.N_alloc | apply Kd.N_drewN | apply Kd.N_drew)); exact Kd.N_mono HO_5.out (fun _ hk => ⟨hk.1.1, hk.2⟩)⟩, ⟨by (with_reducible repeat (first | apply Kd.N_alloc | apply Kd.N_drewN | apply Kd.N_drew)); exact HO415.out⟩, ⟨by repeat (first | exact HB.out | apply za | apply zd | apply ze)⟩⟩

/-! ### spec_CountAvoiding: function 110 -/
def spec_CountAvoiding.f (k : Nat) (a0 : Int) (l1 : List (List Int)) : Option (Int × Bool) := (spec_l3Size.f a0).bind fun t416 => (if t416 = true then ((spec_l3Patterns.f k l1).bind fun t417 => (if t417 = true then ((spec_l3Avoiding.f k a0 l1).bind fun t418 => (some ((t418.length : Int), true))) else (some (0, false)))) else (some (0, false)))
set_option maxHeartbeats 8000000 in
set_option maxRecDepth 100000 in
theorem spec_CountAvoiding.calls (k : Nat) (a0 : Int) (A1 : Option Addr) (c1 : Nat) (l1 : List (List Int)) (r1 : Int) (r2 : Bool) (w : World) (hr1 : Kd.C (Kd.slice 3 (Kd.int .i64)) w A1 l1.length l1) (hc1 : l1.length ≤ c1) (h : spec_CountAvoiding.f k a0 l1 = some (r1, r2)) :
 Calls Try.prog 110 #[.int .i64 a0, .slice A1 l1.length c1] w fun e w' => e = .returned (.tuple #[.int .i64 r1, .bool r2]) ∧ Below w.heap.size w w' := by
 have HR1 := zk hr1
 have HC1 := zk hc1
 clear hr1 hc1
 have HB := zk (Below.refl w.heap.size w)
 have H := h
 unfold spec_CountAvoiding.f at H
 clear h
 replace H := Option.bind_eq_some_iff.mp H
 obtain ⟨t416, A30, H⟩ := H
 try dsimp only at H
 have A3 := zk A30
 clear A30
 by_cases c4 : t416 = true
 rotate_left
 · replace c4 := Bool.eq_false_iff.mpr c4
   subst c4
   have H1 : (some (0, false)) = some (r1, r2) := by rw [if_neg (show ¬ (false = true) by decide)] at H; exact H
   clear H
   have H := H1
   clear H1
   simp only [Option.some.injEq, Prod.mk.injEq] at H
   obtain ⟨rfl, rfl⟩ := H
   go_enter Try.func110, Try.ntmps110
   go_wp2_with (first | ((with_reducible refine gate_callee (f := 224) rfl ?_); refine zG (some 7) Try.func224 #[.int .i64 a0] ?_; (with_reducible refine (spec_l3Size.calls a0 false _ A3.out).mono ?_); rintro e w' ⟨rfl, ⟨nd, rfl⟩⟩; refine ⟨_, rfl, ?_⟩))
   go_ret2
   exact ⟨by first | rfl | (simp [errW_none, errW_some] <;> rfl) | (simp [*, errW_none, errW_some] <;> rfl), by repeat (first | exact HB.out | apply za | apply zd | apply ze)⟩
 subst c4
 have H1 : ((spec_l3Patterns.f k l1).bind fun t417 => (if t417 = true then ((spec_l3Avoiding.f k a0 l1).bind fun t418 => (some ((t418.length : Int), true))) else (some (0, false)))) = some (r1, r2) := by rw [if_pos rfl] at H; exact H
 clear H
 have H := H1
 clear H1
 replace H := Option.bind_eq_some_iff.mp H
 obtain ⟨t417, A50, H⟩ := H
 try dsimp only at H
 have A5 := zk A50
 clear A50
 by_cases c6 : t417 = true
 rotate_left
 · replace c6 := Bool.eq_false_iff.mpr c6
   subst c6
   have H1 : (some (0, false)) = some (r1, r2) := by rw [if_neg (show ¬ (false = true) by decide)] at H; exact H
   clear H
   have H := H1
   clear H1
   simp only [Option.some.injEq, Prod.mk.injEq] at H
   obtain ⟨rfl, rfl⟩ := H
   go_enter Try.func110, Try.ntmps110
   go_wp2_with (first | ((with_reducible refine gate_callee (f := 224) rfl ?_); refine zG (some 7) Try.func224 #[.int .i64 a0] ?_; (with_reducible refine (spec_l3Size.calls a0 true _ A3.out).mono ?_); rintro e w' ⟨rfl, ⟨nd, rfl⟩⟩; refine ⟨_, rfl, ?_⟩) | (go_at_call 225; (with_reducible refine (spec_l3Patterns.calls k _ _ l1 false _ ?side1 ?side2 A5.out).mono ?_); (case side1 => exact zC HR1.out); (case side2 => exact HC1.out); rintro e w' ⟨rfl, ⟨nd, rfl⟩⟩))
   go_ret2
   exact ⟨by first | rfl | (simp [errW_none, errW_some] <;> rfl) | (simp [*, errW_none, errW_some] <;> rfl), by repeat (first | exact HB.out | apply za | apply zd | apply ze)⟩
 subst c6
 have H1 : ((spec_l3Avoiding.f k a0 l1).bind fun t418 => (some ((t418.length : Int), true))) = some (r1, r2) := by rw [if_pos rfl] at H; exact H
 clear H
 have H := H1
 clear H1
 replace H := Option.bind_eq_some_iff.mp H
 obtain ⟨t418, A70, H⟩ := H
 try dsimp only at H
 have A7 := zk A70
 clear A70
 simp only [Option.some.injEq, Prod.mk.injEq] at H
 obtain ⟨rfl, rfl⟩ := H
 go_enter Try.func110, Try.ntmps110
 go_wp2_with (first | ((with_reducible refine gate_callee (f := 224) rfl ?_); refine zG (some 7) Try.func224 #[.int .i64 a0] ?_; (with_reducible refine (spec_l3Size.calls a0 true _ A3.out).mono ?_); rintro e w' ⟨rfl, ⟨nd, rfl⟩⟩; refine ⟨_, rfl, ?_⟩) | (go_at_call 225; (with_reducible refine (spec_l3Patterns.calls k _ _ l1 true _ ?side1 ?side2 A5.out).mono ?_); (case side1 => exact zC HR1.out); (case side2 => exact HC1.out); rintro e w' ⟨rfl, ⟨nd, rfl⟩⟩) | ((with_reducible refine gate_callee (f := 226) rfl ?_); refine zG (some 16) Try.func226 #[.int .i64 a0, .slice A1 l1.length c1] ?_; (with_reducible refine (spec_l3Avoiding.calls k a0 _ _ l1 t418 _ ?side1 ?side2 A7.out).mono ?_); (case side1 => exact zC HR1.out); (case side2 => exact HC1.out); rintro e w8 ⟨v419, rfl, ho0, hb⟩; refine ⟨_, rfl, ?_⟩; have HO420 := zk (Kd.N_lower (Kd.N_mono (ok' := fun k_ => True) ho0 (fun k_ hk_ => trivial)) (below_size (zB HB))); replace HB := zF HB hb; (try clear hb ho0); obtain ⟨Ao9, co9, eo9⟩ := Kd.N_slice HO420.out; subst eo9))
 go_ret2
 exact ⟨by first | rfl | (simp [errW_none, errW_some] <;> rfl) | (simp [*, errW_none, errW_some] <;> rfl), by repeat (first | exact HB.out | apply za | apply zd | apply ze)⟩

/-! ### impl_FirstAvoiding: function 111 -/
def impl_FirstAvoiding.j0 : Nat → Int → List (List Int) → Bool → Option (List Int × Bool)
 | 0, _, _, _ => none
 | k + 1, x0, x1, x14 => if x14 = true then (some (([] : List Int), false)) else ((impl_avoiding.f k x0 x1).bind fun t423 => (if (t423.length : Int) = 0 then (some (([] : List Int), false)) else (if 0 < (t423.length : Int) then (some (rd_L2 t423 0, true)) else (none))))
def impl_FirstAvoiding.f (k : Nat) (a0 : Int) (l1 : List (List Int)) : Option (List Int × Bool) := (impl_isSize.f a0).bind fun t421 => (if t421 = true then ((impl_arePatterns.f l1).bind fun t422 => (impl_FirstAvoiding.j0 k a0 l1 (!t422))) else (impl_FirstAvoiding.j0 k a0 l1 true))
set_option maxHeartbeats 8000000 in
set_option maxRecDepth 100000 in
theorem impl_FirstAvoiding.calls (k : Nat) (a0 : Int) (A1 : Option Addr) (c1 : Nat) (l1 : List (List Int)) (r1 : List Int) (r2 : Bool) (w : World) (hr1 : Kd.C (Kd.slice 3 (Kd.int .i64)) w A1 l1.length l1) (hc1 : l1.length ≤ c1) (h : impl_FirstAvoiding.f k a0 l1 = some (r1, r2)) :
 Calls Try.prog 111 #[.int .i64 a0, .slice A1 l1.length c1] w fun e w' => ∃ v0_ : Value, e = .returned (.tuple #[v0_, .bool r2]) ∧ Kd.R (Kd.int .i64) 3 w' w.heap.size (fun _ => True) v0_ r1 ∧ Below w.heap.size w w' := by
 have HR1 := zk hr1
 have HC1 := zk hc1
 clear hr1 hc1
 have HB := zk (Below.refl w.heap.size w)
 have H := h
 unfold impl_FirstAvoiding.f at H
 clear h
 have HC3 := zk H
 clear H
 go_enter Try.func111, Try.ntmps111
 go_upto_region 1 with (fail)
 go_cut [14] (fun v14 wc => ∃ (kq : Nat) (x14_2 : Bool), v14 = .bool x14_2 ∧ Aside0 (impl_FirstAvoiding.j0 kq a0 l1 x14_2 = some (r1, r2)) ∧ Aside0 (kq ≤ k) ∧ Aside0 (Below w.heap.size w wc))
 case first =>
  have H := HC3.out
  clear HC3
  replace H := Option.bind_eq_some_iff.mp H
  obtain ⟨t421, A40, H⟩ := H
  try dsimp only at H
  have A4 := zk A40
  clear A40
  by_cases c5 : t421 = true
  rotate_left
  · replace c5 := Bool.eq_false_iff.mpr c5
    subst c5
    have H1 : (impl_FirstAvoiding.j0 k a0 l1 true) = some (r1, r2) := by rw [if_neg (show ¬ (false = true) by decide)] at H; exact H
    clear H
    have H := H1
    clear H1
    have H' := zk H
    clear H
    go_wp2_with (first | ((with_reducible refine gate_callee (f := 158) rfl ?_); refine zG (some 8) Try.func158 #[.int .i64 a0] ?_; (with_reducible refine (impl_isSize.calls a0 false _ A4.out).mono ?_); rintro e w' ⟨rfl, ⟨nd, rfl⟩⟩; refine ⟨_, rfl, ?_⟩))
    go_meet
    case rel => exact ⟨_, (true), (by first | rfl | (simp; done) | (simp [*]; done)), H', ⟨by first | omega | exact Nat.le_refl _⟩, ⟨by repeat (first | exact HB.out | apply za | apply zd | apply ze)⟩⟩
  subst c5
  have H1 : ((impl_arePatterns.f l1).bind fun t422 => (impl_FirstAvoiding.j0 k a0 l1 (!t422))) = some (r1, r2) := by rw [if_pos rfl] at H; exact H
  clear H
  have H := H1
  clear H1
  replace H := Option.bind_eq_some_iff.mp H
  obtain ⟨t422, A60, H⟩ := H
  try dsimp only at H
  have A6 := zk A60
  clear A60
  have H' := zk H
  clear H
  go_wp2_with (first | ((with_reducible refine gate_callee (f := 158) rfl ?_); refine zG (some 8) Try.func158 #[.int .i64 a0] ?_; (with_reducible refine (impl_isSize.calls a0 true _ A4.out).mono ?_); rintro e w' ⟨rfl, ⟨nd, rfl⟩⟩; refine ⟨_, rfl, ?_⟩) | (go_at_call 222; (with_reducible refine (impl_arePatterns.calls _ _ l1 t422 _ ?side1 ?side2 A6.out).mono ?_); (case side1 => exact zC (Kd.C_below HR1.out (zB HB))); (case side2 => exact HC1.out); rintro e w7 ⟨rfl, hb⟩; replace HB := zF HB hb; (try clear hb); (try clear hb2); (try clear hk); (try clear hi)))
  go_meet
  case rel => exact ⟨_, (!t422), (by first | rfl | (simp; done) | (simp [*]; done)), H', ⟨by first | omega | exact Nat.le_refl _⟩, ⟨by repeat (first | exact HB.out | apply za | apply zd | apply ze)⟩⟩
 case rest =>
  clear HC3
  try clear c1
  try clear p2
  try clear c5
  obtain ⟨kq, x14_2, rfl, HA, HJ2, HB⟩ := hcut
  cases kq with
  | zero => exact absurd HA.out (by simp [impl_FirstAvoiding.j0])
  | succ kj2 =>
   have H := HA.out
   clear HA
   simp only [impl_FirstAvoiding.j0] at H
   by_cases c8 : x14_2 = true
   rotate_left
   · replace c8 := Bool.eq_false_iff.mpr c8
     subst c8
     have H1 : ((impl_avoiding.f kj2 a0 l1).bind fun t423 => (if (t423.length : Int) = 0 then (some (([] : List Int), false)) else (if 0 < (t423.length : Int) then (some (rd_L2 t423 0, true)) else (none)))) = some (r1, r2) := by rw [if_neg (show ¬ (false = true) by decide)] at H; exact H
     clear H
     have H := H1
     clear H1
     replace H := Option.bind_eq_some_iff.mp H
     obtain ⟨t423, A90, H⟩ := H
     try dsimp only at H
     have A9 := zk A90
     clear A90
     by_cases c10 : (t423.length : Int) = 0
     rotate_left
     · rw [if_neg c10] at H
       have c10b0 : ((t423.length : Int) == 0) = false := beq_eq_false_iff_ne.mpr c10
       have c10b1 : ((t423.length : Int) != 0) = true := bne_iff_ne.mpr c10
       have c10b2 : ¬ (t423 = []) := fun h_ => c10 (by rw [h_]; rfl)
       by_cases c13 : 0 < (t423.length : Int)
       rotate_left
       · rw [if_neg c13] at H
         exact absurd H (by simp)
       rw [if_pos c13] at H
       have c13b0 := decide_eq_true c13
       have c13b1 : decide (0 < t423.length) = true := decide_eq_true (by omega)
       have c13b9 : (0 < t423.length) := by omega
       clear c13
       simp only [Option.some.injEq, Prod.mk.injEq] at H
       obtain ⟨rfl, rfl⟩ := H
       go_wp2_with (first | ((with_reducible refine gate_callee (f := 223) rfl ?_); refine zG (some 17) Try.func223 #[.int .i64 a0, .slice A1 l1.length c1] ?_; (with_reducible refine (impl_avoiding.calls kj2 a0 _ _ l1 t423 _ ?side1 ?side2 A9.out).mono ?_); (case side1 => exact zC (Kd.C_below HR1.out HB.out)); (case side2 => exact HC1.out); rintro e w14 ⟨v424, rfl, ho0, hb⟩; refine ⟨_, rfl, ?_⟩; have HO425 := zk (Kd.S_lower ho0 (below_size (zB HB))); replace HB := zF HB hb; (try clear hb ho0); obtain ⟨Ao15, co15, eo15⟩ := Kd.S_slice HO425.out; subst eo15; have p426 : 0 ≤ (0 : Int) := (by omega); have q426 : 0 < (t423.length : Int) := zo (by assumption); obtain ⟨ad426, A426_0, c426_0, e426, hx426_0, hl426_0, hi426_0⟩ := at_L2 (Kd.S_reads' HO425.out).2.2 0 p426 q426; cases e426; obtain ⟨ce426, hce426, hMe426, hcc426⟩ := Kd.S_get HO425.out [] 0 p426 (by first | exact q426 | exact zo (by assumption) | (have e_ := (Kd.S_reads' HO425.out).1; omega)); obtain ⟨ve426_0, rfl, ge426_0⟩ := hMe426; have hv426_0 := hcc426 0 _ rfl; rw [Nat.add_zero, show ((Kd.slice 3 (Kd.int .i64))).sz = 1 from rfl, Nat.mul_one] at hv426_0; replace hv426_0 := Option.some.inj (hv426_0.symm.trans hx426_0); rw [hv426_0] at ge426_0; have HL426_0 := zk (show Kd.R (Kd.int .i64) 3 _ _ _ _ (rd_L2 t423 0) from ge426_0); clear hv426_0 ge426_0; clear hcc426 hce426; have qi426 : (0 < t423.length) = True := eq_true (by omega); (try rw [show ((0 : Int)).toNat = 0 from rfl] at hx426_0); (try rw [Addr.add_zero'] at hx426_0); have HR426_0 := zk hi426_0; have HC426_0 := zk hl426_0; clear hi426_0 hl426_0; replace p426 := eq_true p426; replace q426 := eq_true q426))
       go_ret2
       exact ⟨_, by first | rfl | (simp [errW_none, errW_some] <;> rfl) | (simp [*, errW_none, errW_some] <;> rfl), by (with_reducible repeat (first | apply zs | apply zr | apply zt)); exact Kd.R_mono HL426_0.out (fun _ hk => trivial), by repeat (first | exact HB.out | apply za | apply zd | apply ze)⟩
     rw [if_pos c10] at H
     have c10b0 : ((t423.length : Int) == 0) = true := beq_iff_eq.mpr c10
     have c10b1 : ((t423.length : Int) != 0) = false := bne_eq_false_iff_eq.mpr c10
     clear c10
     simp only [Option.some.injEq, Prod.mk.injEq] at H
     obtain ⟨rfl, rfl⟩ := H
     go_wp2_with (first | ((with_reducible refine gate_callee (f := 223) rfl ?_); refine zG (some 17) Try.func223 #[.int .i64 a0, .slice A1 l1.length c1] ?_; (with_reducible refine (impl_avoiding.calls kj2 a0 _ _ l1 t423 _ ?side1 ?side2 A9.out).mono ?_); (case side1 => exact zC (Kd.C_below HR1.out HB.out)); (case side2 => exact HC1.out); rintro e w11 ⟨v424, rfl, ho0, hb⟩; refine ⟨_, rfl, ?_⟩; have HO425 := zk (Kd.S_lower ho0 (below_size (zB HB))); replace HB := zF HB hb; (try clear hb ho0); obtain ⟨Ao12, co12, eo12⟩ := Kd.S_slice HO425.out; subst eo12))
     go_ret2
     exact ⟨_, by first | rfl | (simp [errW_none, errW_some] <;> rfl) | (simp [*, errW_none, errW_some] <;> rfl), by first | exact Kd.R_nil _ _ _ _ _ | exact Kd.N_nil _ _ _ _ _ | exact Kd.V_nil _ _ _ _ _ | exact Kd.Q_nil _ _ _ _ _ | exact Kd.S_nil _ _ _ _ _, by repeat (first | exact HB.out | apply za | apply zd | apply ze)⟩
   subst c8
   have H1 : (some (([] : List Int), false)) = some (r1, r2) := by rw [if_pos rfl] at H; exact H
   clear H
   have H := H1
   clear H1
   simp only [Option.some.injEq, Prod.mk.injEq] at H
   obtain ⟨rfl, rfl⟩ := H
   go_wp2
   go_ret2
   exact ⟨_, by first | rfl | (simp [errW_none, errW_some] <;> rfl) | (simp [*, errW_none, errW_some] <;> rfl), by first | exact Kd.R_nil _ _ _ _ _ | exact Kd.N_nil _ _ _ _ _ | exact Kd.V_nil _ _ _ _ _ | exact Kd.Q_nil _ _ _ _ _ | exact Kd.S_nil _ _ _ _ _, by repeat (first | exact HB.out | apply za | apply zd | apply ze)⟩

end Go.Proofs.Ytlkddcabjcejdaa.MFnAvoiding
