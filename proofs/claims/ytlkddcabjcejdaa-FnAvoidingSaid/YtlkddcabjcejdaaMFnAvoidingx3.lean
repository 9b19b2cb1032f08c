/- Functions that FnAvoiding comes to, a walk for each: by wip/tools/mk.py and post.py. No condition. -/
import Derived.Test.YtlkddcabjcejdaaMFnAvoidingx0
import Derived.Test.YtlkddcabjcejdaaMFnAvoidingx1
import Derived.Test.YtlkddcabjcejdaaMFnAvoidingx2
namespace Go.Proofs.Ytlkddcabjcejdaa.MFnAvoiding
open Go.RowKit Go.Proofs.YtlkddcabjcejdaaW.PrintWords Go.Proofs.YtlkddcabjcejdaaW.PrintLast Go.Proofs.YtlkddcabjcejdaaW.PrintMore
attribute [local go_sem] max2_int min2_int max_two min_two max_three min_three max_four min_four
set_option linter.unusedVariables false
set_option linter.unusedSimpArgs false

/-! ### spec_l1Cur_patterns3: function 221 -/
def spec_l1Cur_patterns3.l0 : Nat → List (List Int) → Int → List Int → Int → Int → Option ((List (List Int)) × Int × Int)
 | 0, _, _, _, _, _ => none
 | k + 1, x3, x4, x1000, x1001, x1002 => if x4 > 0 then ((spec_l1Cur_pattern3.f k x1000 x1001 x1002).bind fun bt261 => (if x3.length < 5864062014805 then (spec_l1Cur_patterns3.l0 k (x3 ++ [bt261.1]) (wrap64 (x4 - 1)) x1000 bt261.2.1 bt261.2.2) else (none))) else (some (x3, x1001, x1002))
def spec_l1Cur_patterns3.f (k : Nat) (s0_0 : List Int) (s0_1 : Int) (s0_2 : Int) : Option ((List (List Int)) × Int × Int) := (some (([1, 2, 1, 3, 0, 4, 5] : List Int) : List Int)).bind fun y248 => ((spec_l1Cur_pick.f s0_0 s0_1 s0_2 24).bind fun bt251 => (if 0 ≤ (wrap64 (6 + (wrap64 (Int.tdiv bt251.1 23)))) then (if (wrap64 (6 + (wrap64 (Int.tdiv bt251.1 23)))) ≤ (y248.length : Int) then ((spec_l1Cur_among.f s0_0 bt251.2.1 bt251.2.2 (y248.take ((wrap64 (6 + (wrap64 (Int.tdiv bt251.1 23)))) : Int).toNat)).bind fun bt258 => (spec_l1Cur_patterns3.l0 k (([] : List (List Int))) bt258.1 s0_0 bt258.2.1 bt258.2.2)) else (none)) else (none)))
set_option maxHeartbeats 8000000 in
set_option maxRecDepth 100000 in
theorem spec_l1Cur_patterns3.calls (k : Nat) (g : Nat) (s0_0 : List Int) (s0_1 : Int) (s0_2 : Int) (r1 : List (List Int)) (r2 : Int) (r3 : Int) (w0 w : World) (hI : IsS102 w0 w g s0_0 s0_1 s0_2) (hB : Below w0.heap.size w0 w) (h : spec_l1Cur_patterns3.f k s0_0 s0_1 s0_2 = some (r1, r2, r3)) :
 Calls Try.prog 221 #[.pointer (some ⟨g, 0, none⟩)] w fun e w' => ∃ v0_ : Value, e = .returned (v0_) ∧ Kd.S (Kd.slice 3 (Kd.int .i64)) 22 w' w.heap.size (fun _ => True) v0_ r1 ∧ IsS102 w0 w' g s0_0 r2 r3 ∧ Below w0.heap.size w0 w' ∧ KeepBut w w' g none := by
 have HI0 := zk hI
 have HK := zk (KeepBut.refl w g none)
 have HL := zk hB.size
 clear hI
 have HW0 := zk hB.size
 have HB := zk hB
 clear hB
 have H := h
 unfold spec_l1Cur_patterns3.f at H
 clear h
 obtain ⟨y245, hy245⟩ : ∃ y_ : List (List Int), y_ = (([] : List (List Int))) := ⟨_, rfl⟩
 replace H : ((some (([1, 2, 1, 3, 0, 4, 5] : List Int) : List Int)).bind fun y248 => ((spec_l1Cur_pick.f s0_0 s0_1 s0_2 24).bind fun bt251 => (if 0 ≤ (wrap64 (6 + (wrap64 (Int.tdiv bt251.1 23)))) then (if (wrap64 (6 + (wrap64 (Int.tdiv bt251.1 23)))) ≤ (y248.length : Int) then ((spec_l1Cur_among.f s0_0 bt251.2.1 bt251.2.2 (y248.take ((wrap64 (6 + (wrap64 (Int.tdiv bt251.1 23)))) : Int).toNat)).bind fun bt258 => (spec_l1Cur_patterns3.l0 k y245 bt258.1 s0_0 bt258.2.1 bt258.2.2)) else (none)) else (none)))) = some (r1, r2, r3) := by first | (rw [hy245]; with_reducible exact H) | (have H2_ := (Option.bind_some _ _).symm.trans H; rw [hy245]; with_reducible exact H2_) | (have H2_ := (Option.bind_some _ _).symm.trans H; with_reducible exact H2_) | with_reducible exact H | (rw [hy245]; exact H) | exact H
 have Ny245 := zk hy245
 clear hy245
 obtain ⟨y248, hy248⟩ : ∃ y_ : List Int, y_ = (([1, 2, 1, 3, 0, 4, 5] : List Int)) := ⟨_, rfl⟩
 rw [← hy248] at H
 try rw [zO y248] at H
 try dsimp only at H
 have Ny248 := zk hy248
 clear hy248
 replace H := Option.bind_eq_some_iff.mp H
 obtain ⟨⟨t251, t252, t253⟩, A20, H⟩ := H
 try dsimp only at H
 have A2 := zk A20
 clear A20
 obtain ⟨ji3, hji3⟩ : ∃ j_ : Int, (wrap64 (6 + (wrap64 (Int.tdiv t251 23)))) = j_ := ⟨_, rfl⟩
 replace H : (if 0 ≤ (ji3) then (if (ji3) ≤ (y248.length : Int) then ((spec_l1Cur_among.f s0_0 t252 t253 (y248.take ((ji3) : Int).toNat)).bind fun bt258 => (spec_l1Cur_patterns3.l0 k y245 bt258.1 s0_0 bt258.2.1 bt258.2.2)) else (none)) else (none)) = some (r1, r2, r3) := by first | (rw [hji3] at H; exact H) | (simp only [hji3] at H ⊢; exact H)
 (try rw [hji3] at A2)
 have hji3w : (IntKind.i64.wrap (6 + (wrap64 (Int.tdiv t251 23)))) = ji3 := (i64_w _).trans hji3
 by_cases c4 : 0 ≤ (ji3)
 rotate_left
 · rw [if_neg c4] at H
   exact absurd H (by simp)
 rw [if_pos c4] at H
 have c4b0 := eq_true c4
 have c4b1 := decide_eq_true c4
 clear c4
 by_cases c5 : (ji3) ≤ (y248.length : Int)
 rotate_left
 · rw [if_neg c5] at H
   exact absurd H (by simp)
 rw [if_pos c5] at H
 have c5b0 := eq_true c5
 have c5b1 := decide_eq_true c5
 clear c5
 obtain ⟨y254, hy254⟩ : ∃ y_ : List Int, y_ = (y248.take ((ji3) : Int).toNat) := ⟨_, rfl⟩
 rw [← hy254] at H
 try rw [zO y254] at H
 try dsimp only at H
 have Ny254 := zk hy254
 clear hy254
 replace H := Option.bind_eq_some_iff.mp H
 obtain ⟨⟨t258, t259, t260⟩, A60, H⟩ := H
 try dsimp only at H
 have A6 := zk A60
 clear A60
 have H' := zk H
 clear H
 go_enter Try.func221, Try.ntmps221
 go_wp2_with (first | ((with_reducible refine gate_dst (N := 5) rfl ?_); refine Kd.S_lit (Kd.slice 3 (Kd.int .i64)) _ 22 ?hg (N := 5) ?hd (xs := ([] : List (List Int))) (inner := []) (ok := fun _ => True) (okp := fun _ => True) ?hr ?hp (fun _ hk => hk) trivial (Below.refl _ _) (Nat.le_refl _) (by simp) ?_; (case hd => rfl); (case hg => rfl); (case hr => first | (go_simp; done) | (go_simp; rfl)); (case hp => exact (Reps.none _ _)); intro v246 w7 ho8 hb hg_ hnew_; clear hg_ hnew_; (first | rw [← Ny245.out] at ho8 | (simp only [Int.reduceToNat] at ho8; rw [← Ny245.out] at ho8)); have HO247 := zk (Kd.S_lower ho8 (keep_size (w := w) (g := g) (row := none) (zK HK))); replace HK := zk (KeepBut.trans (zK HK) (KeepBut.of_below hb g none) (.inl rfl)); replace HB := zk (below_step (zBs HB (IsS102.ge HI0.out)) hb); replace HI0 := zk (IsS102.below (by repeat (first | exact HI0.out | apply IsS102.alloc | apply IsS102.drewN | apply IsS102.drew | apply IsS102.set_1 | apply IsS102.set_2)) hb); clear hb ho8) | ((with_reducible refine gate_dst (N := 7) rfl ?_); refine zL 7 3 [1, 2, 1, 3, 0, 4, 5] (Below.refl _ _) (Nat.le_refl _) ?_; intro v249 w9 ho10 hb hg_ hnew_; clear hg_ hnew_; (first | rw [← Ny248.out] at ho10 | (simp only [Int.reduceToNat] at ho10; rw [← Ny248.out] at ho10)); have HO250 := zk (Kd.R_lower ho10 (keep_size (w := w) (g := g) (row := none) (zK HK))); replace HO247 := zk (Kd.S_elder' (zS HO247) (Kd.R_base ho10) hb); replace HK := zk (KeepBut.trans (zK HK) (KeepBut.of_below hb g none) (.inl rfl)); replace HB := zk (below_step (zBs HB (IsS102.ge HI0.out)) hb); replace HI0 := zk (IsS102.below (by repeat (first | exact HI0.out | apply IsS102.alloc | apply IsS102.drewN | apply IsS102.drew | apply IsS102.set_1 | apply IsS102.set_2)) hb); clear hb ho10) | ((with_reducible refine gate_callee (f := 192) rfl ?_); refine zG (some 9) Try.func192 #[.pointer (some ⟨g, 0, none⟩), .int .i64 24] ?_; (with_reducible refine (spec_l1Cur_pick.calls g s0_0 s0_1 s0_2 24 t251 t252 t253 w0 _ ?side1 ?side2 A2.out).mono ?_); (case side1 => repeat (first | exact HI0.out | apply IsS102.alloc | apply IsS102.drewN | apply IsS102.drew | apply IsS102.set_1 | apply IsS102.set_2)); (case side2 => exact zBs HB (IsS102.ge HI0.out)); rintro e w11 ⟨rfl, hi, hb, hk⟩; refine ⟨_, rfl, ?_⟩; replace HO247 := zk (Kd.S_mono (Kd.S_keep (IsS102.apartS (show IsS102 w0 _ g s0_0 s0_1 s0_2 from by repeat (first | exact HI0.out | apply IsS102.alloc | apply IsS102.drewN | apply IsS102.drew | apply IsS102.set_1 | apply IsS102.set_2)) (zS HO247) (by decide)) hk (fun _ h => h.2)) (fun _ h => h.1)); replace HO250 := zk (Kd.R_mono (Kd.R_keep (IsS102.apart (show IsS102 w0 _ g s0_0 s0_1 s0_2 from by repeat (first | exact HI0.out | apply IsS102.alloc | apply IsS102.drewN | apply IsS102.drew | apply IsS102.set_1 | apply IsS102.set_2)) (zR HO250) (by decide)) hk (fun _ h => h.2)) (fun _ h => h.1)); replace HK := zk (KeepBut.trans (zK HK) hk (.inl rfl)); replace HB := zk (hb); replace HI0 := zk (hi); (try clear hb); (try clear hb2); (try clear hk); (try clear hi); obtain ⟨Ao13, co13, eo13⟩ := Kd.R_slice HO250.out; subst eo13; have q12 : ((ji3) : Int) ≤ ((y248.length : Int) : Int) := zo (by assumption); obtain ⟨i012, hi012, _, hsz12, _⟩ := info_parts info3; have hroom12 : y248.length ≤ co13 := (Kd.R_reads' HO250.out).2.1; have hC12 : Kd.C (Kd.int .i64) _ Ao13 y248.length y248 := (Kd.R_reads' HO250.out).2.2; have hcut12 := cut_to (P := Try.prog) 22 3 .i64 Try.underlying22 hi012 Ao13 y248.length co13 (ji3) (zo (by assumption)) q12 hroom12; have hr12 := Kd.C_take (m := ((ji3) : Int).toNat) hC12 (by omega); have hy12 : y254.length = ((ji3) : Int).toNat := (by rw [Ny254.out, List.length_take]; omega); rw [← Ny254.out] at hr12; rw [← hy12] at hcut12; have HR257 := zk hr12; have HC257 := zk (show y254.length ≤ co13 from by omega); clear hr12 hC12 hroom12 hi012 hsz12; have KY12 := zk hy12; clear hy12; have KL12 := zk (show ((ji3) : Int).toNat ≤ y248.length from by omega); replace q12 := eq_true q12) | ((with_reducible refine gate_callee (f := 195) rfl ?_); refine zG (some 13) Try.func195 #[.pointer (some ⟨g, 0, none⟩), .slice Ao13 y254.length co13] ?_; (with_reducible refine (spec_l1Cur_among.calls g s0_0 t252 t253 _ _ y254 t258 t259 t260 w0 _ ?side1 ?side2 ?side3 ?side4 ?side5 A6.out).mono ?_); (case side1 => repeat (first | exact HI0.out | apply IsS102.alloc | apply IsS102.drewN | apply IsS102.drew | apply IsS102.set_1 | apply IsS102.set_2)); (case side2 => exact zBs HB (IsS102.ge HI0.out)); (case side3 => exact zC HR257.out); (case side4 => exact HC257.out); (case side5 => exact fun ad_ e_ h_ => far_slice (IsS102.own_ne HI0.out HO250.out (by decide)) ad_ e_ (by have a_ := KY12.out; have b_ := KL12.out; omega)); rintro e w14 ⟨rfl, hi, hb, hk⟩; refine ⟨_, rfl, ?_⟩; replace HO247 := zk (Kd.S_mono (Kd.S_keep (IsS102.apartS (show IsS102 w0 _ g s0_0 t252 t253 from by repeat (first | exact HI0.out | apply IsS102.alloc | apply IsS102.drewN | apply IsS102.drew | apply IsS102.set_1 | apply IsS102.set_2)) (zS HO247) (by decide)) hk (fun _ h => h.2)) (fun _ h => h.1)); replace HO250 := zk (Kd.R_mono (Kd.R_keep (IsS102.apart (show IsS102 w0 _ g s0_0 t252 t253 from by repeat (first | exact HI0.out | apply IsS102.alloc | apply IsS102.drewN | apply IsS102.drew | apply IsS102.set_1 | apply IsS102.set_2)) (zR HO250) (by decide)) hk (fun _ h => h.2)) (fun _ h => h.1)); replace HK := zk (KeepBut.trans (zK HK) hk (.inl rfl)); replace HB := zk (hb); replace HI0 := zk (hi); (try clear hb); (try clear hb2); (try clear hk); (try clear hi)))
 go_loopg [3, 4] k (fun kq v3 v4 w' => ∃ (x3_1 : List (List Int)) (x4_1 : Int) (x1001_1 : Int) (x1002_1 : Int), v4 = .int .i64 x4_1 ∧ Aside0 (spec_l1Cur_patterns3.l0 kq x3_1 x4_1 s0_0 x1001_1 x1002_1 = some (r1, r2, r3)) ∧ Aside0 (kq ≤ k) ∧ Aside0 (Kd.S (Kd.slice 3 (Kd.int .i64)) 22 w' w.heap.size (fun _ => True) v3 x3_1) ∧ Aside0 (IsS102 w0 w' g s0_0 x1001_1 x1002_1) ∧ Aside0 (KeepBut w w' g none) ∧ Aside0 (Below w0.heap.size w0 w'))
 case atStart => exact ⟨(y245), (t258), (t259), (t260), (by first | rfl | (simp; done) | (simp [*]; done)), H', ⟨Nat.le_refl _⟩, ⟨by (with_reducible repeat (first | apply Kd.S_alloc | apply Kd.S_drewN | apply Kd.S_drew)); exact Kd.S_mono HO247.out (fun _ hk => trivial)⟩, ⟨by repeat (first | exact HI0.out | apply IsS102.alloc | apply IsS102.drewN | apply IsS102.drew | apply IsS102.set_1 | apply IsS102.set_2)⟩, ⟨by repeat (first | exact HK.out | apply KeepBut.set_ | apply keep_drewN | apply keep_drew | apply keep_alloc)⟩, ⟨by repeat (first | (with_reducible first | exact HB.out | apply za | apply zd | apply ze | refine below_set ?_ (IsS102.ge HI0.out)) | exact HB.out)⟩⟩
 case round =>
  clear H'
  try clear c1
  try clear q1
  try clear c2
  try clear p2
  try clear c4
  try clear c4b0
  try clear c4b1
  try clear c5
  try clear c5b0
  try clear c5b1
  try clear p6
  try clear q12
  try clear q12
  obtain ⟨x3_1, x4_1, x1001_1, x1002_1, rfl, HA, HK1, HO_3, HI0, HK, HB⟩ := hrel
  cases gk with
  | zero => exact absurd HA.out (by simp [spec_l1Cur_patterns3.l0])
  | succ k1 =>
   have H := HA.out
   clear HA
   simp only [spec_l1Cur_patterns3.l0] at H
   by_cases c15 : x4_1 > 0
   rotate_left
   · rw [if_neg c15] at H
     have c15b0 := decide_eq_false c15
     clear c15
     simp only [Option.some.injEq, Prod.mk.injEq] at H
     obtain ⟨rfl, rfl, rfl⟩ := H
     go_wp2
     go_ret
     exact ⟨_, by first | rfl | (simp [errW_none, errW_some] <;> rfl) | (simp only [← hji3]; first | rfl | (simp [errW_none, errW_some] <;> rfl)) | (simp [*, errW_none, errW_some] <;> rfl), by (with_reducible repeat (first | apply Kd.S_alloc | apply Kd.S_drewN | apply Kd.S_drew)); exact HO_3.out, by repeat (first | exact HI0.out | apply IsS102.alloc | apply IsS102.drewN | apply IsS102.drew | apply IsS102.set_1 | apply IsS102.set_2), by repeat (first | (with_reducible first | exact HB.out | apply za | apply zd | apply ze | refine below_set ?_ (IsS102.ge HI0.out)) | exact HB.out), by repeat (first | exact HK.out | apply KeepBut.set_ | apply keep_drewN | apply keep_drew | apply keep_alloc)⟩
   rw [if_pos c15] at H
   have c15b0 := decide_eq_true c15
   clear c15
   replace H := Option.bind_eq_some_iff.mp H
   obtain ⟨⟨t261, t264, t265⟩, A160, H⟩ := H
   try dsimp only at H
   have A16 := zk A160
   clear A160
   by_cases c17 : x3_1.length < 5864062014805
   rotate_left
   · rw [if_neg c17] at H
     exact absurd H (by simp)
   rw [if_pos c17] at H
   have LMc17 := zk c17
   clear c17
   obtain ⟨y266, hy266⟩ : ∃ y_ : List (List Int), y_ = (x3_1 ++ [t261]) := ⟨_, rfl⟩
   replace H : (spec_l1Cur_patterns3.l0 k1 y266 (wrap64 (x4_1 - 1)) s0_0 t264 t265) = some (r1, r2, r3) := by first | (rw [hy266]; with_reducible exact H) | (have H2_ := (Option.bind_some _ _).symm.trans H; rw [hy266]; with_reducible exact H2_) | (have H2_ := (Option.bind_some _ _).symm.trans H; with_reducible exact H2_) | with_reducible exact H | (rw [hy266]; exact H) | exact H
   have Ny266 := zk hy266
   clear hy266
   have H' := zk H
   clear H
   go_wp2_with (first | ((with_reducible refine gate_callee (f := 233) rfl ?_); refine zG (some 20) Try.func233 #[.pointer (some ⟨g, 0, none⟩)] ?_; (with_reducible refine (spec_l1Cur_pattern3.calls k1 g s0_0 x1001_1 x1002_1 t261 t264 t265 w0 _ ?side1 ?side2 A16.out).mono ?_); (case side1 => repeat (first | exact HI0.out | apply IsS102.alloc | apply IsS102.drewN | apply IsS102.drew | apply IsS102.set_1 | apply IsS102.set_2)); (case side2 => exact zBs HB (IsS102.ge HI0.out)); rintro e w18 ⟨v262, rfl, ho0, hi, hb, hk⟩; refine ⟨_, rfl, ?_⟩; have HO263 := zk (Kd.R_lower ho0 (keep_size (w := w) (g := g) (row := none) (zK HK))); replace HO_3 := zk (Kd.S_mono (Kd.S_told (Kd.S_oldK (IsS102.apartS (show IsS102 w0 _ g s0_0 x1001_1 x1002_1 from by repeat (first | exact HI0.out | apply IsS102.alloc | apply IsS102.drewN | apply IsS102.drew | apply IsS102.set_1 | apply IsS102.set_2)) (zS HO_3) (by decide)) hk) (Kd.R_base ho0)) (fun _ h_ => h_.1)); replace HK := zk (KeepBut.trans (zK HK) hk (.inl rfl)); replace HB := zk (hb); replace HI0 := zk (hi); (try clear hb hk hi ho0); obtain ⟨Ao20, co20, eo20⟩ := Kd.R_slice HO263.out; subst eo20) | ((with_reducible refine gate_builtin (b := .append) (xs := #[.tmp 18, .tmp 21]) rfl ?_); at_builtin; refine Kd.S_append (Kd.slice 3 (Kd.int .i64)) w.heap.size rfl (.tmp 18) (.tmp 21) 28 22 (.slice none 0 0) 24 rfl Try.underlying28 info22 rfl (by decide) (by omega) u3 x3_1 t261 [.slice Ao20 t261.length co20] (fun _ => True) (fun k_ => some k_ = (.slice Ao20 t261.length co20 : Value).ownBlock) rfl rfl ?aP (fun k_ hk_ => ((Kd.R_mono (ok' := fun k_ => ((fun _ => True)) k_ ∧ some k_ ≠ (u3 : Value).ownBlock) (Kd.R_apart' (HO263.out) (Kd.S_typed HO_3.out) (by decide)) (fun k_ hk => ⟨trivial, hk.2⟩))).1 k_ hk_.symm) ?aF ?aO (Below.refl _ _) ?aS ?aL ?_; (case aP => exact Kd.M_row (Kd.R_mono (Kd.R_tight rfl (Kd.R_mono (ok' := fun k_ => ((fun _ => True)) k_ ∧ some k_ ≠ (u3 : Value).ownBlock) (Kd.R_apart' (HO263.out) (Kd.S_typed HO_3.out) (by decide)) (fun k_ hk => ⟨trivial, hk.2⟩))) (fun _ h_ => h_))); (case aF => exact (fun _ _ => trivial)); (case aO => exact (by (with_reducible repeat (first | apply Kd.S_alloc | apply Kd.S_drewN | apply Kd.S_drew)); exact Kd.S_mono HO_3.out (fun k_ hk => ⟨trivial, fun e_ => hk.2 e_⟩))); (case aS => exact (keep_size (w := w) (g := g) (row := none) (zK HK))); (case aL => have := LMc17.out; omega); intro v267 w19 ho hb hg hat; rw [← Ny266.out] at ho; have HO268 := zk (ho); replace HB := zk (below_weaken (zBs HB (IsS102.ge HI0.out)) HL.out hb); replace HI0 := zk (IsS102.grown (by repeat (first | exact HI0.out | apply IsS102.alloc | apply IsS102.drewN | apply IsS102.drew | apply IsS102.set_1 | apply IsS102.set_2)) hg (IsS102.own_neS HI0.out HO_3.out (by decide))); replace HK := zk (KeepBut.trans (zK HK) (KeepBut.of_grown hg g) (Kd.S_base2 HO_3.out)); clear HO_3 HO263; clear ho hb hg hat))
   go_roundg k1
   case measure => have := HK1.out; omega
   case rel => exact ⟨(y266), (wrap64 (x4_1 - 1)), (t264), (t265), (by first | rfl | (simp; done) | (simp [*]; done)), H', ⟨by have := HK1.out; omega⟩, ⟨by (with_reducible repeat (first | apply Kd.S_alloc | apply Kd.S_drewN | apply Kd.S_drew)); exact HO268.out⟩, ⟨by repeat (first | exact HI0.out | apply IsS102.alloc | apply IsS102.drewN | apply IsS102.drew | apply IsS102.set_1 | apply IsS102.set_2)⟩, ⟨by repeat (first | exact HK.out | apply KeepBut.set_ | apply keep_drewN | apply keep_drew | apply keep_alloc)⟩, ⟨by repeat (first | (with_reducible first | exact HB.out | apply za | apply zd | apply ze | refine below_set ?_ (IsS102.ge HI0.out)) | exact HB.out)⟩⟩

/-! ### spec_DrawCountAvoiding: function 108 -/
def spec_DrawCountAvoiding.f (k : Nat) (l0 : List Int) : Option (Int × (List (List Int))) := (spec_l1Cur_size3.f l0 0 0).bind fun bt270 => ((spec_l1Cur_patterns3.f k l0 bt270.2.1 bt270.2.2).bind fun bt273 => (some (bt270.1, bt273.1)))
set_option maxHeartbeats 8000000 in
set_option maxRecDepth 100000 in
theorem spec_DrawCountAvoiding.calls (k : Nat) (A0 : Option Addr) (c0 : Nat) (l0 : List Int) (r1 : Int) (r2 : List (List Int)) (w : World) (hr0 : Kd.C (Kd.int .u8) w A0 l0.length l0) (hc0 : l0.length ≤ c0) (h : spec_DrawCountAvoiding.f k l0 = some (r1, r2)) :
 Calls Try.prog 108 #[.slice A0 l0.length c0] w fun e w' => ∃ v1_ : Value, e = .returned (.tuple #[.int .i64 r1, v1_]) ∧ Kd.S (Kd.slice 3 (Kd.int .i64)) 22 w' w.heap.size (fun _ => True) v1_ r2 ∧ Below w.heap.size w w' := by
 have hu102 := Try.underlying102
 have HR0 := zk hr0
 have HC0 := zk hc0
 clear hr0 hc0
 have HB := zk (Below.refl w.heap.size w)
 have H := h
 unfold spec_DrawCountAvoiding.f at H
 clear h
 replace H := Option.bind_eq_some_iff.mp H
 obtain ⟨⟨t270, t271, t272⟩, A20, H⟩ := H
 try dsimp only at H
 have A2 := zk A20
 clear A20
 replace H := Option.bind_eq_some_iff.mp H
 obtain ⟨⟨t273, t276, t277⟩, A30, H⟩ := H
 try dsimp only at H
 have A3 := zk A30
 clear A30
 simp only [Option.some.injEq, Prod.mk.injEq] at H
 obtain ⟨rfl, rfl⟩ := H
 go_enter Try.func108, Try.ntmps108
 go_wp2_with (first | ((with_reducible refine gate_dst (N := 7) rfl ?_); refine box_event ?hg (N := 7) ?hd (cs := #[.slice A0 l0.length c0, .int .i64 0, .int .u64 0]) (t := 102) ?hr ?_; (case hd => rfl); (case hg => rfl); (case hr => first | (go_simp; done) | (go_simp; rfl)); intro gb269 hg w4 hbox hb; have HI269 := zk ((⟨_, _, hbox, (by rw [hg]; exact (below_size (zB HB)) : w.heap.size ≤ gb269), HR0.out⟩ : IsS102 w _ gb269 l0 0 0)); have GW269 := zk ((by rw [hg]; exact (below_size (zB HB)) : w.heap.size ≤ gb269)); have GE269 := zk ((by rw [hg]; exact (below_size (zB HB)) : w.heap.size ≤ gb269)); replace HB := zF HB hb; clear hb hbox hg) | ((with_reducible refine gate_callee (f := 220) rfl ?_); refine zG (some 9) Try.func220 #[.pointer (some ⟨gb269, 0, none⟩)] ?_; (with_reducible refine (spec_l1Cur_size3.calls gb269 l0 0 0 t270 t271 t272 w _ ?side1 ?side2 A2.out).mono ?_); (case side1 => repeat (first | exact HI269.out | apply IsS102.alloc | apply IsS102.drewN | apply IsS102.drew | apply IsS102.set_1 | apply IsS102.set_2)); (case side2 => exact zBs HB (IsS102.ge HI269.out)); rintro e w5 ⟨rfl, hi, hb, hk⟩; refine ⟨_, rfl, ?_⟩; replace HB := zk (hb); replace HI269 := zk (hi); (try clear hb); (try clear hb2); (try clear hk); (try clear hi)) | ((with_reducible refine gate_callee (f := 221) rfl ?_); refine zG (some 11) Try.func221 #[.pointer (some ⟨gb269, 0, none⟩)] ?_; (with_reducible refine (spec_l1Cur_patterns3.calls k gb269 l0 t271 t272 t273 t276 t277 w _ ?side1 ?side2 A3.out).mono ?_); (case side1 => repeat (first | exact HI269.out | apply IsS102.alloc | apply IsS102.drewN | apply IsS102.drew | apply IsS102.set_1 | apply IsS102.set_2)); (case side2 => exact zBs HB (IsS102.ge HI269.out)); rintro e w6 ⟨v274, rfl, ho0, hi, hb, hk⟩; refine ⟨_, rfl, ?_⟩; have HO275 := zk (Kd.S_lower ho0 (below_size (zBs HB (IsS102.ge HI269.out)))); replace HB := zk (hb); replace HI269 := zk (hi); (try clear hb hk hi ho0)))
 go_ret2
 exact ⟨_, by first | rfl | (simp [errW_none, errW_some] <;> rfl) | (simp [*, errW_none, errW_some] <;> rfl), by (with_reducible repeat (first | apply Kd.S_alloc | apply Kd.S_drewN | apply Kd.S_drew)); exact HO275.out, by repeat (first | (with_reducible first | exact HB.out | apply za | apply zd | apply ze | refine below_set ?_ (IsS102.ge HI269.out)) | exact HB.out)⟩

/-! ### impl_isSize: function 158 -/
def impl_isSize.f (a0 : Int) : Option (Bool) := if a0 ≥ 1 then (some (decide (a0 ≤ 7))) else (some false)
set_option maxHeartbeats 8000000 in
set_option maxRecDepth 100000 in
theorem impl_isSize.calls (a0 : Int) (r : Bool) (w : World) (h : impl_isSize.f a0 = some r) :
 Calls Try.prog 158 #[.int .i64 a0] w fun e w' => e = .returned (.bool r) ∧ Drawn0 w w' := by
 have H : (if a0 ≥ 1 then (some (decide (a0 ≤ 7))) else (some false)) = some r := h
 clear h
 by_cases c2 : a0 ≥ 1
 rotate_left
 · rw [if_neg c2] at H
   have c2b0 := decide_eq_false c2
   clear c2
   obtain rfl := Option.some.inj H
   go_enter Try.func158, Try.ntmps158
   go_wp2
   go_ret
   exact ⟨zX, zD⟩
 rw [if_pos c2] at H
 have c2b0 := decide_eq_true c2
 clear c2
 obtain rfl := Option.some.inj H
 go_enter Try.func158, Try.ntmps158
 go_wp2
 go_ret
 exact ⟨zX, zD⟩

/-! ### shared: orderimpl -/
section
open Go.Proofs.Ytlkddcabjcejdaa.Base
theorem idx_l (l : List Int) (x : Int) (hl : l.length ≤ 140737488351232) : ∀ (suf pre : List Int), l = pre ++ suf → Ev (fun k => slices_Index_int_int.l0 k l x (l.length : Int) (pre.length : Int)) (if x ∈ suf then ((pre.length + suf.idxOf x : Nat) : Int) else -1) := by
 intro suf
 induction suf with
 | nil =>
  intro pre e
  have h := len_end e
  refine ev_succ ?_
  simp only [slices_Index_int_int.l0.eq_2]
  refine ev_neg (by omega) ?_
  exact ev_now (by simp)
 | cons c suf ih =>
  intro pre e
  have h := len_mid e
  refine ev_succ ?_
  simp only [slices_Index_int_int.l0.eq_2, rd_mid' e]
  refine ev_pos (by omega) (ev_pos (by omega) (ev_pos (by omega) ?_))
  by_cases hc : x = c
  · exact ev_pos hc (ev_now (by simp [hc]))
  · refine ev_neg hc ?_
    rw [wrap_snoc (pre := pre) (c := c) (by omega)]
    refine ev_eq (ih _ (snoc_mid e)) ?_
    have hc' : ¬ c = x := fun h => hc h.symm
    have hb : (c == x) = false := by simpa using hc'
    simp only [List.mem_cons, hc, false_or, List.idxOf_cons, hb, cond_false]
    by_cases hm : x ∈ suf
    · rw [if_pos hm, if_pos hm]; simp; omega
    · rw [if_neg hm, if_neg hm]
theorem idx_ev (l : List Int) (x : Int) (hl : l.length ≤ 140737488351232) : Ev (fun k => slices_Index_int_int.f k l x) (if x ∈ l then ((l.idxOf x : Nat) : Int) else -1) := by
 unfold slices_Index_int_int.f
 simpa using idx_l l x hl l [] rfl
theorem contains_ev (l : List Int) (x : Int) (hl : l.length ≤ 140737488351232) : Ev (fun k => slices_Contains_int_int.f k l x) (decide (x ∈ l)) := by
 unfold slices_Contains_int_int.f
 refine ev_bind (idx_ev l x hl) (ev_now ?_)
 by_cases h : x ∈ l
 · simp [h]
 · simp [h]
theorem impl_order_l (l : List Int) (hl : l.length ≤ 140737488351232) : ∀ (suf pre : List Int), l = pre ++ suf → Ev (fun k => impl_isOrder.l0 k l l (l.length : Int) (pre.length : Int)) (ordGo (l.length : Int) pre suf) := by
 intro suf
 induction suf with
 | nil =>
  intro pre e
  have h := len_end e
  refine ev_succ ?_
  simp only [impl_isOrder.l0.eq_2]
  refine ev_neg (by omega) ?_
  exact ev_now rfl
 | cons c suf ih =>
  intro pre e
  have h := len_mid e
  refine ev_succ ?_
  simp only [impl_isOrder.l0.eq_2, rd_mid' e, take_mid e]
  refine ev_pos (by omega) (ev_pos (by omega) (ev_pos (by omega) ?_))
  by_cases h1 : c < 1
  · exact ev_pos h1 (ev_now (by simp only [ordGo]; rw [if_neg (fun h => by omega)]))
  refine ev_neg h1 ?_
  by_cases h2 : c > (l.length : Int)
  · exact ev_pos h2 (ev_now (by simp only [ordGo]; rw [if_neg (fun h => by omega)]))
  refine ev_neg h2 (ev_pos (by omega) (ev_bind (contains_ev pre c (by omega)) ?_))
  by_cases hc : c ∈ pre
  · exact ev_pos (by simp [hc]) (ev_now (by simp [ordGo, hc]))
  · refine ev_neg (by simp [hc]) ?_
    rw [wrap_snoc (pre := pre) (c := c) (by omega)]
    refine ev_eq (ih _ (snoc_mid e)) ?_
    simp only [ordGo]
    rw [if_pos ⟨by omega, by omega, hc⟩]
theorem impl_order_ev (l : List Int) (hl : l.length ≤ 140737488351232) : Ev (fun k => impl_isOrder.f k l) (isOrd l) := by
 have key : ∀ b : Bool, Ev (fun k => impl_isOrder.j0 k l b) (if b = true then false else ordGo (l.length : Int) [] l) := by
  intro b
  refine ev_succ ?_
  simp only [impl_isOrder.j0.eq_2]
  cases b with
  | true => exact ev_pos rfl (ev_now rfl)
  | false => exact ev_neg (by simp) (impl_order_l l hl l [] rfl)
 unfold impl_isOrder.f isOrd
 by_cases h1 : (l.length : Int) < 1
 · refine ev_pos h1 (ev_eq (key true) ?_)
   rw [if_pos rfl, if_neg (fun h => by omega)]
 · refine ev_neg h1 (ev_eq (key _) ?_)
   by_cases h2 : (l.length : Int) > 7
   · rw [if_neg (c := 1 ≤ l.length ∧ l.length ≤ 7) (fun h => by omega), if_pos (decide_eq_true h2)]
   · rw [if_pos (c := 1 ≤ l.length ∧ l.length ≤ 7) ⟨by omega, by omega⟩, if_neg (by simp; omega)]
end

/-! ### impl_arePatterns: function 222 -/
section
open Go.Proofs.Ytlkddcabjcejdaa.Base
set_option maxHeartbeats 8000000 in
set_option maxRecDepth 100000 in
theorem indexFunc_ap (bad : List Int → Bool) (rows : List (List Int)) (A0 : Option Addr) (c0 : Nat) (w : World) (hr0 : Kd.C (Kd.slice 3 (Kd.int .i64)) w A0 rows.length rows) (hc0 : rows.length ≤ c0) (hlen : rows.length ≤ 4611686018427387904)
 (hcb : ∀ W A c xs, Below w.heap.size w W → xs ∈ rows → Kd.C (Kd.int .i64) W A xs.length xs → xs.length ≤ c → Calls Try.prog 261 #[.slice A xs.length c] W fun e w' => e = .returned (.bool (bad xs)) ∧ Below W.heap.size W w') :
 Calls Try.prog 253 #[.slice A0 rows.length c0, .func (.func 261) #[] #[]] w fun e w' => e = .returned (.int .i64 (idxGo bad rows 0)) ∧ Below w.heap.size w w' := by
 have HR0 := zk hr0
 have HCB := zk hcb
 obtain ⟨R, hR⟩ : ∃ R, idxGo bad rows 0 = R := ⟨_, rfl⟩
 rw [hR]
 have HP := zk hR
 clear hR hr0 hcb
 go_enter Try.func253, Try.ntmps253
 go_wp2
 go_loopg [8] rows.length (fun kq v8 wr => ∃ (pre suf : List (List Int)), v8 = .int .i64 (pre.length : Int) ∧ kq = suf.length ∧ Aside0 (rows = pre ++ suf) ∧ Aside0 (idxGo bad suf (pre.length : Int) = R) ∧ Aside0 (Below w.heap.size w wr))
 case atStart => exact ⟨[], rows, rfl, rfl, ⟨rfl⟩, HP, ⟨Below.refl _ _⟩⟩
 case round =>
  clear HP
  obtain ⟨pre, suf, rfl, rfl, HL, HP, HB⟩ := hrel
  cases suf with
  | nil =>
   have hl : rows.length = pre.length := by rw [HL.out]; simp
   have hg : ¬ ((pre.length : Int) < (rows.length : Int)) := by omega
   have hgb : decide ((pre.length : Int) < (rows.length : Int)) = false := decide_eq_false hg
   have e := HP.out
   simp only [idxGo] at e
   subst e
   clear hl
   go_wp2
   go_ret
   exact ⟨rfl, HB.out⟩
  | cons x t =>
   have hl : rows.length = pre.length + (t.length + 1) := by rw [HL.out]; simp
   have hg : (pre.length : Int) < (rows.length : Int) := by omega
   have hgb : decide ((pre.length : Int) < (rows.length : Int)) = true := decide_eq_true hg
   have hrd : rows.getD pre.length [] = x := by rw [HL.out]; simp
   obtain ⟨ad, A1, c1, e1, hx, hl1, hi1⟩ := row_at HR0.out (pre.length : Int) (by omega) hg
   cases e1
   rw [show ((pre.length : Int)).toNat = pre.length by omega, hrd] at hx hl1 hi1
   replace hx := pw_cell_below_ HB.out hx
   have HI1 := zk (Kd.C_below hi1 HB.out)
   have HL1 := zk hl1
   have HM := zk (show x ∈ rows by rw [HL.out]; simp)
   have hb1 : (pre.length : Int) ≤ 4611686018427387904 := by omega
   clear hl hrd hi1 hl1
   cases hbx : bad x with
   | true =>
    have H := HCB.out wr A1 c1 x HB.out HM.out HI1.out HL1.out
    rw [hbx] at H
    have HH := zk H
    have e := HP.out
    simp only [idxGo, hbx, if_true] at e
    subst e
    clear H hbx
    go_wp2_with (go_at_call 261; refine HH.out.mono ?_; rintro e_ w2 ⟨rfl, hb2⟩; have HX := zk hb2; clear hb2)
    go_ret
    exact ⟨rfl, below_step HB.out HX.out⟩
   | false =>
    have H := HCB.out wr A1 c1 x HB.out HM.out HI1.out HL1.out
    rw [hbx] at H
    have HH := zk H
    have e := HP.out
    simp only [idxGo, hbx, Bool.false_eq_true, if_false] at e
    have HP2 := zk e
    clear H hbx e
    go_wp2_with (go_at_call 261; refine HH.out.mono ?_; rintro e_ w2 ⟨rfl, hb2⟩; have HX := zk hb2; clear hb2)
    go_roundg t.length
    case measure => simp
    case rel => exact ⟨pre ++ [x], t, by simp, rfl, ⟨by rw [HL.out]; simp⟩, ⟨by have := HP2.out; simpa using this⟩, ⟨below_step HB.out HX.out⟩⟩
set_option maxHeartbeats 8000000 in
set_option maxRecDepth 100000 in
theorem containsFunc_ap (bad : List Int → Bool) (rows : List (List Int)) (A0 : Option Addr) (c0 : Nat) (w : World) (hr0 : Kd.C (Kd.slice 3 (Kd.int .i64)) w A0 rows.length rows) (hc0 : rows.length ≤ c0) (hlen : rows.length ≤ 4611686018427387904)
 (hcb : ∀ W A c xs, Below w.heap.size w W → xs ∈ rows → Kd.C (Kd.int .i64) W A xs.length xs → xs.length ≤ c → Calls Try.prog 261 #[.slice A xs.length c] W fun e w' => e = .returned (.bool (bad xs)) ∧ Below W.heap.size W w') :
 Calls Try.prog 260 #[.slice A0 rows.length c0, .func (.func 261) #[] #[]] w fun e w' => e = .returned (.bool (rows.any bad)) ∧ Below w.heap.size w w' := by
 have H := indexFunc_ap bad rows A0 c0 w hr0 hc0 hlen hcb
 have hi := idxGo_any bad rows 0 (by omega)
 obtain ⟨R, hR⟩ : ∃ R, idxGo bad rows 0 = R := ⟨_, rfl⟩
 rw [hR] at H hi
 rw [← hi]
 have HH := zk H
 clear H hi hR hcb hr0
 cases hd : decide (0 ≤ R) with
 | true =>
  have h0 : 0 ≤ R := zo hd
  clear hd
  go_enter Try.func260, Try.ntmps260
  go_wp2_with (go_at_call 253; refine HH.out.mono ?_; rintro e_ w2 ⟨rfl, hb2⟩; have HX := zk hb2; clear hb2)
  go_ret
  exact ⟨by simp [h0], HX.out⟩
 | false =>
  have h0 : ¬ 0 ≤ R := of_decide_eq_false hd
  clear hd
  go_enter Try.func260, Try.ntmps260
  go_wp2_with (go_at_call 253; refine HH.out.mono ?_; rintro e_ w2 ⟨rfl, hb2⟩; have HX := zk hb2; clear hb2)
  go_ret
  exact ⟨by simp [h0], HX.out⟩
set_option maxHeartbeats 8000000 in
set_option maxRecDepth 100000 in
theorem arePatterns_cb (W : World) (A : Option Addr) (c : Nat) (xs : List Int) (hC : Kd.C (Kd.int .i64) W A xs.length xs) (hc : xs.length ≤ c) (hl : xs.length ≤ 140737488351232) :
 Calls Try.prog 261 #[.slice A xs.length c] W fun e w' => e = .returned (.bool (!isOrd xs)) ∧ Below W.heap.size W w' := by
 obtain ⟨k, hk⟩ := impl_order_ev xs hl
 have H := impl_isOrder.calls k A c xs (isOrd xs) W hC hc (hk k (Nat.le_refl _))
 have HH := zk H
 clear H hk hC
 cases hb : isOrd xs with
 | true =>
  rw [hb] at HH
  clear hb
  go_enter Try.func261, Try.ntmps261
  go_wp2_with (go_at_call 146; refine HH.out.mono ?_; rintro e_ w2 ⟨rfl, ⟨nd, rfl⟩⟩)
  go_ret
  exact ⟨rfl, zd (Below.refl _ _) _⟩
 | false =>
  rw [hb] at HH
  clear hb
  go_enter Try.func261, Try.ntmps261
  go_wp2_with (go_at_call 146; refine HH.out.mono ?_; rintro e_ w2 ⟨rfl, ⟨nd, rfl⟩⟩)
  go_ret
  exact ⟨rfl, zd (Below.refl _ _) _⟩
def arePats (rows : List (List Int)) : Bool := decide ((rows.length : Int) ≤ 4) && !rows.any (fun xs => !isOrd xs)
def impl_arePatterns.f (l0 : List (List Int)) : Option Bool := if l0.length ≤ 4611686018427387904 ∧ ∀ xs ∈ l0, xs.length ≤ 140737488351232 then some (arePats l0) else none
set_option maxHeartbeats 8000000 in
set_option maxRecDepth 100000 in
theorem impl_arePatterns.calls (A0 : Option Addr) (c0 : Nat) (l0 : List (List Int)) (r : Bool) (w : World) (hr0 : Kd.C (Kd.slice 3 (Kd.int .i64)) w A0 l0.length l0) (hc0 : l0.length ≤ c0) (h : impl_arePatterns.f l0 = some r) :
 Calls Try.prog 222 #[.slice A0 l0.length c0] w fun e w' => e = .returned (.bool r) ∧ Below w.heap.size w w' := by
 unfold impl_arePatterns.f at h
 by_cases hq : l0.length ≤ 4611686018427387904 ∧ ∀ xs ∈ l0, xs.length ≤ 140737488351232
 · rw [if_pos hq] at h
   obtain rfl := Option.some.inj h
   have H := containsFunc_ap (fun xs => !isOrd xs) l0 A0 c0 w hr0 hc0 hq.1 (fun W A c xs hb hx hC hc => arePatterns_cb W A c xs hC hc (hq.2 xs hx))
   have HH := zk H
   unfold arePats
   obtain ⟨b, hb⟩ : ∃ b, l0.any (fun xs => !isOrd xs) = b := ⟨_, rfl⟩
   rw [hb] at HH ⊢
   have hlen := hq.1
   clear H h hq hb hr0
   by_cases h4 : (l0.length : Int) ≤ 4
   · have h4b : decide ((l0.length : Int) ≤ 4) = true := decide_eq_true h4
     rw [h4b]
     cases b with
     | true =>
      go_enter Try.func222, Try.ntmps222
      go_wp2_with (go_at_call 260; refine HH.out.mono ?_; rintro e_ w2 ⟨rfl, hb2⟩; have HX := zk hb2; clear hb2)
      go_ret
      exact ⟨rfl, HX.out⟩
     | false =>
      go_enter Try.func222, Try.ntmps222
      go_wp2_with (go_at_call 260; refine HH.out.mono ?_; rintro e_ w2 ⟨rfl, hb2⟩; have HX := zk hb2; clear hb2)
      go_ret
      exact ⟨rfl, HX.out⟩
   · have h4b : decide ((l0.length : Int) ≤ 4) = false := decide_eq_false h4
     rw [h4b]
     clear HH
     go_enter Try.func222, Try.ntmps222
     go_wp2
     go_ret
     exact ⟨rfl, Below.refl _ _⟩
 · rw [if_neg hq] at h; cases h
end

/-! ### impl_factorial: function 186 -/
def impl_factorial.l0 : Nat → Int → Int → Int → Option (Int)
 | 0, _, _, _ => none
 | k + 1, x0, x3, x4 => if x4 ≤ x0 then (impl_factorial.l0 k x0 (wrap64 (x3 * x4)) (wrap64 (x4 + 1))) else (some x3)
def impl_factorial.f (k : Nat) (a0 : Int) : Option (Int) := impl_factorial.l0 k a0 1 2
theorem impl_factorial.mono_l : ∀ k, (∀ y0 y1 y2, LeO (impl_factorial.l0 k y0 y1 y2) (impl_factorial.l0 (k + 1) y0 y1 y2))
 | 0 => fun _ _ _ r h => by simp [impl_factorial.l0] at h
 | k + 1 => by
  have ih0 := impl_factorial.mono_l k
  · intro y0 y1 y2
    unfold impl_factorial.l0
    repeat' first
    | (with_reducible exact ih0 _ _ _)
    | (with_reducible exact LeO.refl _)
    | (with_reducible exact LeO.none _)
    | (with_reducible refine LeO.ite ?_ ?_)
    | (with_reducible refine LeO.bind ?_ (fun _ => ?_))
    | exact ih0 _ _ _
    | exact LeO.none _
    | refine LeO.ite ?_ ?_
    | refine LeO.bind ?_ (fun _ => ?_)
theorem impl_factorial.mono : ∀ a0 k, LeO (impl_factorial.f k a0) (impl_factorial.f (k + 1) a0) := by
 intro a0 k
 have ih0 := impl_factorial.mono_l k
 unfold impl_factorial.f
 repeat' first
  | (with_reducible exact ih0 _ _ _)
  | (with_reducible exact LeO.refl _)
  | (with_reducible exact LeO.none _)
  | (with_reducible refine LeO.ite ?_ ?_)
  | (with_reducible refine LeO.bind ?_ (fun _ => ?_))
  | exact ih0 _ _ _
  | exact LeO.none _
  | refine LeO.ite ?_ ?_
  | refine LeO.bind ?_ (fun _ => ?_)
set_option maxHeartbeats 8000000 in
set_option maxRecDepth 100000 in
theorem impl_factorial.calls (k : Nat) (a0 : Int) (r : Int) (w : World) (h : impl_factorial.f k a0 = some r) :
 Calls Try.prog 186 #[.int .i64 a0] w fun e w' => e = .returned (.int .i64 r) ∧ Drawn0 w w' := by
 have H : (impl_factorial.l0 k a0 1 2) = some r := h
 clear h
 have H' := zk H
 clear H
 go_enter Try.func186, Try.ntmps186
 go_wp2
 go_loopg [3, 4] k (fun kq v3 v4 w' => ∃ (x3_1 : Int) (x4_1 : Int), v3 = .int .i64 x3_1 ∧ v4 = .int .i64 x4_1 ∧ Aside0 (impl_factorial.l0 kq a0 x3_1 x4_1 = some r) ∧ Aside0 (kq ≤ k) ∧ Drawn0 w w')
 case atStart => exact ⟨(1), (2), (by first | rfl | (simp; done) | (simp [*]; done)), (by first | rfl | (simp; done) | (simp [*]; done)), H', ⟨Nat.le_refl _⟩, zD⟩
 case round =>
  clear H'
  try clear c1
  obtain ⟨x3_1, x4_1, rfl, rfl, HA, HK1, ⟨m1, rfl⟩⟩ := hrel
  cases gk with
  | zero => exact absurd HA.out (by simp [impl_factorial.l0])
  | succ k1 =>
   have H := HA.out
   clear HA
   simp only [impl_factorial.l0] at H
   by_cases c2 : x4_1 ≤ a0
   rotate_left
   · rw [if_neg c2] at H
     have c2b0 := decide_eq_false c2
     clear c2
     obtain rfl := Option.some.inj H
     go_wp2
     go_ret
     exact ⟨zX, zD⟩
   rw [if_pos c2] at H
   have c2b0 := decide_eq_true c2
   clear c2
   have H' := zk H
   clear H
   go_wp2
   go_roundg k1
   case measure => have := HK1.out; omega
   case rel => exact ⟨(wrap64 (x3_1 * x4_1)), (wrap64 (x4_1 + 1)), (by first | rfl | (simp; done) | (simp [*]; done)), (by first | rfl | (simp; done) | (simp [*]; done)), H', ⟨by have := HK1.out; omega⟩, zD⟩

/-! ### impl_sorted: function 183 -/
def impl_sorted.l0 : Nat → List Int → Int → Int → Option (List Int)
 | 0, _, _, _ => none
 | k + 1, x3, x6, x7 => if x7 < x6 then (if x3.length < 17592186044416 then (impl_sorted.l0 k (x3 ++ [wrap64 (x7 + 1)]) x6 (wrap64 (x7 + 1))) else (none)) else (some x3)
def impl_sorted.f (k : Nat) (a0 : Int) : Option (List Int) := impl_sorted.l0 k (([] : List Int)) a0 0
theorem impl_sorted.mono_l : ∀ k, (∀ y0 y1 y2, LeO (impl_sorted.l0 k y0 y1 y2) (impl_sorted.l0 (k + 1) y0 y1 y2))
 | 0 => fun _ _ _ r h => by simp [impl_sorted.l0] at h
 | k + 1 => by
  have ih0 := impl_sorted.mono_l k
  · intro y0 y1 y2
    unfold impl_sorted.l0
    repeat' first
    | (with_reducible exact ih0 _ _ _)
    | (with_reducible exact LeO.refl _)
    | (with_reducible exact LeO.none _)
    | (with_reducible refine LeO.ite ?_ ?_)
    | (with_reducible refine LeO.bind ?_ (fun _ => ?_))
    | exact ih0 _ _ _
    | exact LeO.none _
    | refine LeO.ite ?_ ?_
    | refine LeO.bind ?_ (fun _ => ?_)
theorem impl_sorted.mono : ∀ a0 k, LeO (impl_sorted.f k a0) (impl_sorted.f (k + 1) a0) := by
 intro a0 k
 have ih0 := impl_sorted.mono_l k
 unfold impl_sorted.f
 repeat' first
  | (with_reducible exact ih0 _ _ _)
  | (with_reducible exact LeO.refl _)
  | (with_reducible exact LeO.none _)
  | (with_reducible refine LeO.ite ?_ ?_)
  | (with_reducible refine LeO.bind ?_ (fun _ => ?_))
  | exact ih0 _ _ _
  | exact LeO.none _
  | refine LeO.ite ?_ ?_
  | refine LeO.bind ?_ (fun _ => ?_)
set_option maxHeartbeats 8000000 in
set_option maxRecDepth 100000 in
theorem impl_sorted.calls (k : Nat) (a0 : Int) (r : List Int) (w : World) (h : impl_sorted.f k a0 = some r) :
 Calls Try.prog 183 #[.int .i64 a0] w fun e w' => ∃ v0_ : Value, e = .returned (v0_) ∧ Kd.R (Kd.int .i64) 3 w' w.heap.size (fun _ => True) v0_ r ∧ Below w.heap.size w w' := by
 have HB := zk (Below.refl w.heap.size w)
 have H : (impl_sorted.l0 k (([] : List Int)) a0 0) = some r := h
 clear h
 obtain ⟨y278, hy278⟩ : ∃ y_ : List Int, y_ = (([] : List Int)) := ⟨_, rfl⟩
 replace H : (impl_sorted.l0 k y278 a0 0) = some r := by first | (rw [hy278]; with_reducible exact H) | (have H2_ := (Option.bind_some _ _).symm.trans H; rw [hy278]; with_reducible exact H2_) | (have H2_ := (Option.bind_some _ _).symm.trans H; with_reducible exact H2_) | with_reducible exact H | (rw [hy278]; exact H) | exact H
 have Ny278 := zk hy278
 clear hy278
 have H' := zk H
 clear H
 go_enter Try.func183, Try.ntmps183
 go_wp2_with (first | ((with_reducible refine gate_dst (N := 5) rfl ?_); refine zL 5 3 [] (Below.refl _ _) (Nat.le_refl _) ?_; intro v279 w2 ho3 hb hg_ hnew_; clear hg_ hnew_; (first | rw [← Ny278.out] at ho3 | (simp only [Int.reduceToNat] at ho3; rw [← Ny278.out] at ho3)); have HO280 := zk (Kd.R_lower ho3 (below_size (zB HB))); replace HB := zF HB hb; clear hb ho3))
 go_loopg [3, 7] k (fun kq v3 v7 w' => ∃ (x3_1 : List Int) (x7_1 : Int), v7 = .int .i64 x7_1 ∧ Aside0 (impl_sorted.l0 kq x3_1 a0 x7_1 = some r) ∧ Aside0 (kq ≤ k) ∧ Aside0 (Kd.R (Kd.int .i64) 3 w' w.heap.size (fun _ => True) v3 x3_1) ∧ Aside0 (Below w.heap.size w w'))
 case atStart => exact ⟨(y278), (0), (by first | rfl | (simp; done) | (simp [*]; done)), H', ⟨Nat.le_refl _⟩, ⟨by (with_reducible repeat (first | apply zs | apply zr | apply zt)); exact HO280.out⟩, ⟨by repeat (first | exact HB.out | apply za | apply zd | apply ze)⟩⟩
 case round =>
  clear H'
  try clear c1
  try clear p2
  obtain ⟨x3_1, x7_1, rfl, HA, HK1, HO_3, HB⟩ := hrel
  cases gk with
  | zero => exact absurd HA.out (by simp [impl_sorted.l0])
  | succ k1 =>
   have H := HA.out
   clear HA
   simp only [impl_sorted.l0] at H
   by_cases c4 : x7_1 < a0
   rotate_left
   · rw [if_neg c4] at H
     have c4b0 := decide_eq_false c4
     clear c4
     obtain rfl := Option.some.inj H
     go_wp2
     go_ret
     exact ⟨_, by first | rfl | (simp [errW_none, errW_some] <;> rfl) | (simp [*, errW_none, errW_some] <;> rfl), by (with_reducible repeat (first | apply zs | apply zr | apply zt)); exact HO_3.out, by repeat (first | exact HB.out | apply za | apply zd | apply ze)⟩
   rw [if_pos c4] at H
   have c4b0 := decide_eq_true c4
   clear c4
   by_cases c5 : x3_1.length < 17592186044416
   rotate_left
   · rw [if_neg c5] at H
     exact absurd H (by simp)
   rw [if_pos c5] at H
   have LMc5 := zk c5
   clear c5
   obtain ⟨y281, hy281⟩ : ∃ y_ : List Int, y_ = (x3_1 ++ [wrap64 (x7_1 + 1)]) := ⟨_, rfl⟩
   replace H : (impl_sorted.l0 k1 y281 a0 (wrap64 (x7_1 + 1))) = some r := by first | (rw [hy281]; with_reducible exact H) | (have H2_ := (Option.bind_some _ _).symm.trans H; rw [hy281]; with_reducible exact H2_) | (have H2_ := (Option.bind_some _ _).symm.trans H; with_reducible exact H2_) | with_reducible exact H | (rw [hy281]; exact H) | exact H
   have Ny281 := zk hy281
   clear hy281
   have H' := zk H
   clear H
   go_wp2_with (first | ((with_reducible refine gate_builtin (b := .append) (xs := #[.tmp 10, .tmp 13]) rfl ?_); at_builtin; refine Kd.R_append (Kd.int .i64) (w0 := w) w.heap.size rfl (.tmp 10) (.tmp 13) 22 3 (.int .i64 0) 8 rfl Try.underlying22 info3 rfl (by decide) (by omega) u3 x3_1 (wrap64 (x7_1 + 1)) [.int .i64 (wrap64 (x7_1 + 1))] (fun _ => True) (fun _ => False) rfl rfl ?aP (fun _ hk => hk.elim) ?aF ?aO ?aB ?aS ?aL ?_; (case aP => exact rfl); (case aB => exact (zB HB)); (case aF => exact (fun _ _ => trivial)); (case aO => exact (zR HO_3)); (case aS => exact (below_size (zB HB))); (case aL => have := LMc5.out; omega); intro v282 w6 ho hb hg hat; rw [← Ny281.out] at ho; have HO283 := zk (ho); replace HB := zk (hb); clear HO_3; clear ho hb hg hat))
   go_roundg k1
   case measure => have := HK1.out; omega
   case rel => exact ⟨(y281), (wrap64 (x7_1 + 1)), (by first | rfl | (simp; done) | (simp [*]; done)), H', ⟨by have := HK1.out; omega⟩, ⟨by (with_reducible repeat (first | apply zs | apply zr | apply zt)); exact HO283.out⟩, ⟨by repeat (first | exact HB.out | apply za | apply zd | apply ze)⟩⟩

/-! ### slices_Delete_int_int: function 185 -/
def slices_Delete_int_int.f (l0 : List Int) (a1 : Int) (a2 : Int) : Option (List Int) := if 0 ≤ a1 then (if a1 < a2 then (if a2 ≤ (l0.length : Int) then (some (l0.take a1.toNat ++ l0.drop a2.toNat)) else (none)) else (none)) else (none)
set_option maxHeartbeats 8000000 in
theorem slices_Delete_int_int.calls (P0_ : Nat → Prop) (u9000_ : Value) (l0 : List Int) (a1 : Int) (a2 : Int) (r : List Int) (w0 w : World) (hB : Below w0.heap.size w0 w) (ho0 : Kd.R (Kd.int .i64) 3 w w0.heap.size P0_ u9000_ l0) (h : slices_Delete_int_int.f l0 a1 a2 = some r) :
 Calls Try.prog 185 #[u9000_, .int .i64 a1, .int .i64 a2] w fun e w' => ∃ v0_ : Value, e = .returned (v0_) ∧ Kd.R (Kd.int .i64) 3 w' w0.heap.size (fun k_ => (P0_ k_ ∨ w.heap.size ≤ k_)) v0_ r ∧ Below w0.heap.size w0 w' ∧ Kept w w' (fun k_ => P0_ k_) := by
 unfold slices_Delete_int_int.f at h
 by_cases h1 : 0 ≤ a1
 · rw [if_pos h1] at h
   by_cases h2 : a1 < a2
   · rw [if_pos h2] at h
     by_cases h3 : a2 ≤ (l0.length : Int)
     · rw [if_pos h3] at h
       obtain rfl := Option.some.inj h
       have hok := ho0.1
       have hown := Kd.own_of_R ho0
       obtain ⟨hlen, hv⟩ := hown
       rcases hv with ⟨_, hz⟩ | ⟨g, cap, cur, rfl, hg, hh, hnc, hcm, hcs, ht⟩
       · omega
       · have hP : P0_ g := hok g (by simp [Value.ownBlock])
         have hcap : cap ≤ 9223372036854775807 := by simp only [maxLen] at hcm; omega
         obtain ⟨i, rfl⟩ : ∃ i : Nat, a1 = (i : Int) := ⟨a1.toNat, by omega⟩
         obtain ⟨j, rfl⟩ : ∃ j : Nat, a2 = (j : Int) := ⟨a2.toNat, by omega⟩
         have hRC := (Kd.R_reads' ho0).2.2
         have hcell : ∀ q, q < l0.length → w.cell? ⟨g, 0 + q, none⟩ = some (.int .i64 (l0.getD q 0)) := by
          intro q hq
          obtain ⟨ad, e1, e2⟩ := Kd.at_int hRC (q : Int) (by omega) (by omega)
          cases e1
          rw [add_plain] at e2
          simpa [rd] using e2
         refine (Try.slices_Delete_int_cells g 0 l0.length cap i j l0 w (Nat.le_refl _) hnc hcap (by omega) (by omega) hcell (fun q _ => blk_frozen hh _)).mono ?_
         rintro e w' ⟨rfl, q, rfl⟩
         have hd : (w.drewN q).heap[g]? = some (.cells cur 3 (0, 0)) := hh
         have hl : (((l0.take l0.length).take i ++ (l0.take l0.length).drop j ++ List.replicate (j - i) (0 : Int)).map (Value.int .i64)).length = l0.length := by
          simp; omega
         obtain ⟨cur', c1, c2, c3⟩ := setCells_row (((l0.take l0.length).take i ++ (l0.take l0.length).drop j ++ List.replicate (j - i) (0 : Int)).map (Value.int .i64)) 0 (w.drewN q) cur hd (by rw [hl]; omega)
         obtain ⟨s1, s2, s3, s4⟩ := setCells_same g (((l0.take l0.length).take i ++ (l0.take l0.length).drop j ++ List.replicate (j - i) (0 : Int)).map (Value.int .i64)) 0 (w.drewN q)
         have hfar : ∀ k, k ≠ g → ((w.drewN q).setCells g 0 (((l0.take l0.length).take i ++ (l0.take l0.length).drop j ++ List.replicate (j - i) (0 : Int)).map (Value.int .i64))).heap[k]? = w.heap[k]? := fun k hk => setCells_far _ 0 k hk
         have hr : (l0.take (i : Int).toNat ++ l0.drop (j : Int).toNat).length = l0.length - (j - i) := by simp; omega
         refine ⟨_, rfl, ?_, ⟨s1.trans hB.os, s2.trans hB.tape, s3.trans hB.output, ?_, ?_⟩, ?_, ?_⟩
         · refine Kd.R_of_own ?_ ?_
           · rw [hr]
             refine ⟨by rw [encs_length, hr, Nat.mul_one], .inr ⟨g, cap, cur', rfl, hg, c1, by omega, hcm, by rw [c2, hcs], ?_⟩⟩
             rw [c3]
             simp only [List.take_zero, List.nil_append, Nat.mul_one]
             rw [List.take_append_of_le_length (by rw [hl]; omega), ← List.map_take]
             unfold encs
             congr 1
             rw [List.take_length, List.take_append_of_le_length (by simp; omega), List.take_of_length_le (by simp; omega)]
             simp
           · intro k hk
             have : g = k := by simpa [Value.ownBlock] using hk
             exact .inl (this ▸ hP)
         · rw [s4]; exact hB.size
         · intro k hk
           rw [hfar k (by omega)]
           exact hB.block k hk
         · rw [s4]; exact Nat.le_refl _
         · intro k hk hn
           exact hfar k (fun e => hn (e ▸ hP))
     · rw [if_neg h3] at h; cases h
   · rw [if_neg h2] at h; cases h
 · rw [if_neg h1] at h; cases h

/-! ### impl_orderAt: function 197 -/
def impl_orderAt.l0 : Nat → Int → List Int → List Int → Option (List Int)
 | 0, _, _, _ => none
 | k + 1, x1, x5, x6 => if (x5.length : Int) > 0 then ((impl_factorial.f k (wrap64 ((x5.length : Int) - 1))).bind fun t290 => (if t290 = 0 then (none) else (if 0 ≤ (wrap64 (Int.tdiv x1 t290)) then (if (wrap64 (Int.tdiv x1 t290)) < (x5.length : Int) then (if x6.length < 17592186044416 then ((slices_Delete_int_int.f x5 (wrap64 (Int.tdiv x1 t290)) (wrap64 ((wrap64 (Int.tdiv x1 t290)) + 1))).bind fun t295 => (impl_orderAt.l0 k (Int.tmod x1 t290) t295 (x6 ++ [rd x5 (wrap64 (Int.tdiv x1 t290))]))) else (none)) else (none)) else (none)))) else (some x6)
def impl_orderAt.f (k : Nat) (a0 : Int) (a1 : Int) : Option (List Int) := (impl_sorted.f k a0).bind fun t284 => (impl_orderAt.l0 k a1 t284 (([] : List Int)))
set_option maxHeartbeats 8000000 in
set_option maxRecDepth 100000 in
theorem impl_orderAt.calls (k : Nat) (a0 : Int) (a1 : Int) (r : List Int) (w : World) (h : impl_orderAt.f k a0 a1 = some r) :
 Calls Try.prog 197 #[.int .i64 a0, .int .i64 a1] w fun e w' => ∃ v0_ : Value, e = .returned (v0_) ∧ Kd.R (Kd.int .i64) 3 w' w.heap.size (fun _ => True) v0_ r ∧ Below w.heap.size w w' := by
 have HB := zk (Below.refl w.heap.size w)
 have H := h
 unfold impl_orderAt.f at H
 clear h
 replace H := Option.bind_eq_some_iff.mp H
 obtain ⟨t284, A30, H⟩ := H
 try dsimp only at H
 have A3 := zk A30
 clear A30
 obtain ⟨y287, hy287⟩ : ∃ y_ : List Int, y_ = (([] : List Int)) := ⟨_, rfl⟩
 replace H : (impl_orderAt.l0 k a1 t284 y287) = some r := by first | (rw [hy287]; with_reducible exact H) | (have H2_ := (Option.bind_some _ _).symm.trans H; rw [hy287]; with_reducible exact H2_) | (have H2_ := (Option.bind_some _ _).symm.trans H; with_reducible exact H2_) | with_reducible exact H | (rw [hy287]; exact H) | exact H
 have Ny287 := zk hy287
 clear hy287
 have H' := zk H
 clear H
 go_enter Try.func197, Try.ntmps197
 go_wp2_with (first | ((with_reducible refine gate_callee (f := 183) rfl ?_); refine zG (some 10) Try.func183 #[.int .i64 a0] ?_; (with_reducible refine (impl_sorted.calls k a0 t284 _ A3.out).mono ?_); rintro e w4 ⟨v285, rfl, ho0, hb⟩; refine ⟨_, rfl, ?_⟩; have HO286 := zk (Kd.R_lower ho0 (below_size (zB HB))); replace HB := zF HB hb; (try clear hb ho0)) | ((with_reducible refine gate_dst (N := 11) rfl ?_); refine zL 11 3 [] (Below.refl _ _) (Nat.le_refl _) ?_; intro v288 w5 ho6 hb hg_ hnew_; clear hg_ hnew_; (first | rw [← Ny287.out] at ho6 | (simp only [Int.reduceToNat] at ho6; rw [← Ny287.out] at ho6)); have HO289 := zk (Kd.R_lower (Kd.R_new' ho6 (Kd.R_lt (zR HO286))) (below_size (zB HB))); replace HO286 := zE HO286 ho6 hb; replace HB := zF HB hb; clear hb ho6))
 go_loopg [1, 5, 6] k (fun kq v1 v5 v6 w' => ∃ (x1_1 : Int) (x5_1 : List Int) (x6_1 : List Int), v1 = .int .i64 x1_1 ∧ Aside0 (impl_orderAt.l0 kq x1_1 x5_1 x6_1 = some r) ∧ Aside0 (kq ≤ k) ∧ Aside0 (Kd.R (Kd.int .i64) 3 w' w.heap.size (fun k_ => some k_ ≠ (v6 : Value).ownBlock) v5 x5_1) ∧ Aside0 (Kd.R (Kd.int .i64) 3 w' w.heap.size (fun k_ => some k_ ≠ (v5 : Value).ownBlock) v6 x6_1) ∧ Aside0 (Below w.heap.size w w'))
 case atStart => exact ⟨(a1), (t284), (y287), (by first | rfl | (simp; done) | (simp [*]; done)), H', ⟨Nat.le_refl _⟩, ⟨by (with_reducible repeat (first | apply zs | apply zr | apply zt)); exact Kd.R_mono HO286.out (fun _ hk => hk.2)⟩, ⟨by (with_reducible repeat (first | apply zs | apply zr | apply zt)); exact Kd.R_mono HO289.out (fun _ hk => hk.2)⟩, ⟨by repeat (first | exact HB.out | apply za | apply zd | apply ze)⟩⟩
 case round =>
  clear H'
  try clear c1
  try clear p2
  obtain ⟨x1_1, x5_1, x6_1, rfl, HA, HK1, HO_5, HO_6, HB⟩ := hrel
  cases gk with
  | zero => exact absurd HA.out (by simp [impl_orderAt.l0])
  | succ k1 =>
   have H := HA.out
   clear HA
   simp only [impl_orderAt.l0] at H
   by_cases c7 : (x5_1.length : Int) > 0
   rotate_left
   · rw [if_neg c7] at H
     have c7b0 := decide_eq_false c7
     have c7b1 : decide (0 < x5_1.length) = false := decide_eq_false (by omega)
     have c7b9 : ¬ (0 < x5_1.length) := by omega
     clear c7
     obtain rfl := Option.some.inj H
     obtain ⟨Ao18, co18, eo18⟩ := Kd.R_slice HO_5.out
     subst eo18
     go_wp2
     go_ret
     exact ⟨_, by first | rfl | (simp [errW_none, errW_some] <;> rfl) | (simp [*, errW_none, errW_some] <;> rfl), by (with_reducible repeat (first | apply zs | apply zr | apply zt)); exact Kd.R_mono HO_6.out (fun _ hk => trivial), by repeat (first | exact HB.out | apply za | apply zd | apply ze)⟩
   rw [if_pos c7] at H
   have c7b0 := decide_eq_true c7
   have c7b1 : decide (0 < x5_1.length) = true := decide_eq_true (by omega)
   have c7b9 : (0 < x5_1.length) := by omega
   clear c7
   replace H := Option.bind_eq_some_iff.mp H
   obtain ⟨t290, A80, H⟩ := H
   try dsimp only at H
   have A8 := zk A80
   clear A80
   by_cases c9 : t290 = 0
   rotate_left
   · rw [if_neg c9] at H
     have c9b0 : (t290 == 0) = false := beq_eq_false_iff_ne.mpr c9
     have c9b1 : (t290 != 0) = true := bne_iff_ne.mpr c9
     obtain ⟨ji10, hji10⟩ : ∃ j_ : Int, (wrap64 (Int.tdiv x1_1 t290)) = j_ := ⟨_, rfl⟩
     replace H : (if 0 ≤ (ji10) then (if (ji10) < (x5_1.length : Int) then (if x6_1.length < 17592186044416 then ((slices_Delete_int_int.f x5_1 (ji10) (wrap64 ((ji10) + 1))).bind fun t295 => (impl_orderAt.l0 k1 (Int.tmod x1_1 t290) t295 (x6_1 ++ [rd x5_1 (ji10)]))) else (none)) else (none)) else (none)) = some r := by first | (rw [hji10] at H; exact H) | (simp only [hji10] at H ⊢; exact H)
     (try rw [hji10] at A8)
     have hji10w : (IntKind.i64.wrap (Int.tdiv x1_1 t290)) = ji10 := (i64_w _).trans hji10
     by_cases c11 : 0 ≤ (ji10)
     rotate_left
     · rw [if_neg c11] at H
       exact absurd H (by simp)
     rw [if_pos c11] at H
     have c11b0 := decide_eq_true c11
     clear c11
     by_cases c12 : (ji10) < (x5_1.length : Int)
     rotate_left
     · rw [if_neg c12] at H
       exact absurd H (by simp)
     rw [if_pos c12] at H
     have c12b0 := decide_eq_true c12
     clear c12
     by_cases c13 : x6_1.length < 17592186044416
     rotate_left
     · rw [if_neg c13] at H
       exact absurd H (by simp)
     rw [if_pos c13] at H
     have LMc13 := zk c13
     clear c13
     obtain ⟨y292, hy292⟩ : ∃ y_ : List Int, y_ = (x6_1 ++ [rd x5_1 (ji10)]) := ⟨_, rfl⟩
     rw [← hy292] at H
     try rw [zO y292] at H
     try dsimp only at H
     have Ny292 := zk hy292
     clear hy292
     replace H := Option.bind_eq_some_iff.mp H
     obtain ⟨t295, A140, H⟩ := H
     try dsimp only at H
     have A14 := zk A140
     clear A140
     have H' := zk H
     clear H
     obtain ⟨Ao15, co15, eo15⟩ := Kd.R_slice HO_5.out
     subst eo15
     go_wp2_with (first | ((with_reducible refine gate_callee (f := 186) rfl ?_); refine zG (some 18) Try.func186 #[.int .i64 (wrap64 ((x5_1.length : Int) - 1))] ?_; (with_reducible refine (impl_factorial.calls k1 (wrap64 ((x5_1.length : Int) - 1)) t290 _ A8.out).mono ?_); rintro e w' ⟨rfl, ⟨nd, rfl⟩⟩; refine ⟨_, rfl, ?_⟩; have p291 : 0 ≤ ((ji10) : Int) := zo (by assumption); have q291 : (ji10) < (x5_1.length : Int) := zo (by assumption); obtain ⟨ad291, e291, hx291_0⟩ := Kd.at_int (Kd.R_reads' HO_5.out).2.2 (ji10) p291 q291; cases e291; replace p291 := eq_true p291; replace q291 := eq_true q291) | ((with_reducible refine gate_builtin (b := .append) (xs := #[.tmp 25, .tmp 30]) rfl ?_); at_builtin; refine Kd.R_append (Kd.int .i64) (w0 := w) w.heap.size rfl (.tmp 25) (.tmp 30) 22 3 (.int .i64 0) 8 rfl Try.underlying22 info3 rfl (by decide) (by omega) u6 x6_1 (rd x5_1 (ji10)) [.int .i64 (rd x5_1 (ji10))] (fun k_ => some k_ ≠ (.slice (some ad291) x5_1.length co15 : Value).ownBlock) (fun _ => False) rfl rfl ?aP (fun _ hk => hk.elim) ?aF ?aO ?aB ?aS ?aL ?_; (case aP => exact rfl); (case aB => exact (zB HB)); (case aF => exact (fun k_ hk => Kd.fresh' (Kd.R_lt (zR HO_5)) k_ hk)); (case aO => exact (zR HO_6)); (case aS => exact (below_size (zB HB))); (case aL => have := LMc13.out; omega); intro v293 w16 ho hb hg hat; rw [← Ny292.out] at ho; have HO294 := zk (ho); replace HO_5 := zk (Kd.R_after (ok := (fun _ => True)) (by (with_reducible repeat (first | apply zs | apply zr | apply zt)); first | exact Kd.R_mono HO_5.out (fun _ hk => ⟨trivial, hk⟩) | exact Kd.R_mono HO_5.out (fun k_ hk => by (have own_ : ∀ (A : Option Addr) (n c : Nat), (Value.slice A n c).ownBlock = A.map Addr.block := fun A n c => by cases A <;> rfl); simp only [own_] at hk ⊢; exact ⟨trivial, hk⟩)) hg hat); replace HB := zk (hb); clear HO_6; clear ho hb hg hat) | ((with_reducible refine gate_callee (f := 185) rfl ?_); refine goesL_ (some 36) rfl rfl Try.func185 (by kernel_rfl) rfl #[.slice (some ad291) x5_1.length co15, .int .i64 ji10, .int .i64 (wrap64 ((ji10) + 1))] rfl (by (try simp only [List.map_toArray, List.map_cons, List.map_nil]); first | done | (simp only [hji10]; rfl) | rfl | (simp only [List.length_drop, List.length_take]; rfl)) ?_; (with_reducible refine (slices_Delete_int_int.calls (fun k_ => some k_ = (.slice (some ad291) x5_1.length co15 : Value).ownBlock) (.slice (some ad291) x5_1.length co15) x5_1 ji10 (wrap64 ((ji10) + 1)) t295 w _ ?side1 ?side2 A14.out).mono ?_); (case side1 => repeat (first | exact HB.out | apply za | apply zd | apply ze)); (case side2 => exact Kd.R_tight rfl HO_5.out); rintro e w17 ⟨v296, rfl, ho0, hb, hkp⟩; refine ⟨_, rfl, ?_⟩; have HO297 := zk (Kd.R_mono (ok' := fun k_ => some k_ ≠ (v293 : Value).ownBlock) ho0 (fun k_ hk_ => Or.elim hk_ (fun hs_ => fun e_ => (((HO294.out).1 k_ e_.symm)) hs_) (fun hn_ => (Kd.fresh' (Kd.R_lt (zR HO294)) k_ hn_)))); replace HO294 := zk (Kd.R_mono (ok' := fun k_ => some k_ ≠ (v296 : Value).ownBlock) (Kd.R_keptB (HO294.out) hkp (fun k_ hk_ hs_ => (hk_) hs_)) (fun k_ hk_ => fun e_ => Or.elim (ho0.1 k_ e_.symm) (fun hs_ => hk_.2.1 hs_) (fun hn_ => Nat.not_le.2 hk_.2.2 hn_))); replace HB := zk (hb); clear HO_5; (try clear hb); (try clear hkp); (try clear ho0)))
     go_roundg k1
     case measure => have := HK1.out; omega
     case rel => exact ⟨(Int.tmod x1_1 t290), (t295), (y292), (by first | rfl | (simp; done) | (simp [*]; done)), H', ⟨by have := HK1.out; omega⟩, ⟨by (with_reducible repeat (first | apply zs | apply zr | apply zt)); exact HO297.out⟩, ⟨by (with_reducible repeat (first | apply zs | apply zr | apply zt)); exact HO294.out⟩, ⟨by repeat (first | exact HB.out | apply za | apply zd | apply ze)⟩⟩
   rw [if_pos c9] at H
   exact absurd H (by simp)

end Go.Proofs.Ytlkddcabjcejdaa.MFnAvoiding
