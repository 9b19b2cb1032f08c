/- Functions that FnAvoiding comes to, a walk for each: by wip/tools/mk.py and post.py. No condition. -/
import Derived.Test.YtlkddcabjcejdaaMFnAvoidingx0
import Derived.Test.YtlkddcabjcejdaaMFnAvoidingx1
import Derived.Test.YtlkddcabjcejdaaMFnAvoidingx2
import Derived.Test.YtlkddcabjcejdaaMFnAvoidingx3
import Derived.Test.YtlkddcabjcejdaaMFnAvoidingx4
import Derived.Test.YtlkddcabjcejdaaMFnAvoidingx6
import Derived.Test.YtlkddcabjcejdaaMFnAvoidingx9
namespace Go.Proofs.Ytlkddcabjcejdaa.MFnAvoiding
open Go.RowKit Go.Proofs.YtlkddcabjcejdaaW.PrintWords Go.Proofs.YtlkddcabjcejdaaW.PrintLast Go.Proofs.YtlkddcabjcejdaaW.PrintMore
attribute [local go_sem] max2_int min2_int max_two min_two max_three min_three max_four min_four
set_option linter.unusedVariables false
set_option linter.unusedSimpArgs false

/-! ### spec_InsertLast: function 121 -/
def spec_InsertLast.f (k : Nat) (l0 : List Int) (a1 : Int) : Option (List Int × Bool) := (spec_l2Order.f k l0).bind fun t539 => (if t539 = true then (if (l0.length : Int) = 7 then (some ((([] : List Int)), false)) else ((spec_l1In.f a1 1 (wrap64 ((l0.length : Int) + 1))).bind fun t543 => (if t543 = true then ((spec_l3Insert.f k l0 a1).bind fun t544 => (some (t544, true))) else (some ((([] : List Int)), false))))) else (some ((([] : List Int)), false)))
set_option maxHeartbeats 8000000 in
set_option maxRecDepth 100000 in
theorem spec_InsertLast.calls (k : Nat) (A0 : Option Addr) (c0 : Nat) (l0 : List Int) (a1 : Int) (r1 : List Int) (r2 : Bool) (w : World) (hr0 : Kd.C (Kd.int .i64) w A0 l0.length l0) (hc0 : l0.length ≤ c0) (h : spec_InsertLast.f k l0 a1 = some (r1, r2)) :
 Calls Try.prog 121 #[.slice A0 l0.length c0, .int .i64 a1] w fun e w' => ∃ v0_ : Value, e = .returned (.tuple #[v0_, .bool r2]) ∧ Kd.R (Kd.int .i64) 3 w' w.heap.size (fun _ => True) v0_ r1 ∧ Below w.heap.size w w' := by
 have HR0 := zk hr0
 have HC0 := zk hc0
 clear hr0 hc0
 have HB := zk (Below.refl w.heap.size w)
 have H := h
 unfold spec_InsertLast.f at H
 clear h
 replace H := Option.bind_eq_some_iff.mp H
 obtain ⟨t539, A30, H⟩ := H
 try dsimp only at H
 have A3 := zk A30
 clear A30
 by_cases c4 : t539 = true
 rotate_left
 · replace c4 := Bool.eq_false_iff.mpr c4
   subst c4
   have H1 : (some ((([] : List Int)), false)) = some (r1, r2) := by rw [if_neg (show ¬ (false = true) by decide)] at H; exact H
   clear H
   have H := H1
   clear H1
   obtain ⟨y550, hy550⟩ : ∃ y_ : List Int, y_ = (([] : List Int)) := ⟨_, rfl⟩
   replace H : (some (y550, false)) = some (r1, r2) := by first | (rw [hy550]; with_reducible exact H) | (have H2_ := (Option.bind_some _ _).symm.trans H; rw [hy550]; with_reducible exact H2_) | (have H2_ := (Option.bind_some _ _).symm.trans H; with_reducible exact H2_) | with_reducible exact H | (rw [hy550]; exact H) | exact H
   have Ny550 := zk hy550
   clear hy550
   simp only [Option.some.injEq, Prod.mk.injEq] at H
   obtain ⟨rfl, rfl⟩ := H
   go_enter Try.func121, Try.ntmps121
   go_wp2_with (first | ((with_reducible refine gate_callee (f := 142) rfl ?_); refine zG (some 7) Try.func142 #[.slice A0 l0.length c0] ?_; (with_reducible refine (spec_l2Order.calls k _ _ l0 false _ ?side1 ?side2 A3.out).mono ?_); (case side1 => exact zC HR0.out); (case side2 => exact HC0.out); rintro e w' ⟨rfl, ⟨nd, rfl⟩⟩; refine ⟨_, rfl, ?_⟩) | ((with_reducible refine gate_dst (N := 22) rfl ?_); (try (refine gate_guard (by rfl) ?_; dsimp only)); refine zL 22 3 [] (Below.refl _ _) (Nat.le_refl _) ?_; intro v551 w14 ho15 hb hg_ hnew_; clear hg_ hnew_; (first | rw [← Ny550.out] at ho15 | (simp only [Int.reduceToNat] at ho15; rw [← Ny550.out] at ho15)); have HO552 := zk (Kd.R_lower ho15 (below_size (zB HB))); replace HB := zF HB hb; clear hb ho15))
   go_ret2
   exact ⟨_, by first | rfl | (simp [errW_none, errW_some] <;> rfl) | (simp [*, errW_none, errW_some] <;> rfl), by (with_reducible repeat (first | apply zs | apply zr | apply zt)); exact HO552.out, by repeat (first | exact HB.out | apply za | apply zd | apply ze)⟩
 subst c4
 have H1 : (if (l0.length : Int) = 7 then (some ((([] : List Int)), false)) else ((spec_l1In.f a1 1 (wrap64 ((l0.length : Int) + 1))).bind fun t543 => (if t543 = true then ((spec_l3Insert.f k l0 a1).bind fun t544 => (some (t544, true))) else (some ((([] : List Int)), false))))) = some (r1, r2) := by rw [if_pos rfl] at H; exact H
 clear H
 have H := H1
 clear H1
 by_cases c5 : (l0.length : Int) = 7
 rotate_left
 · rw [if_neg c5] at H
   have c5b0 : ((l0.length : Int) == 7) = false := beq_eq_false_iff_ne.mpr c5
   have c5b1 : ((l0.length : Int) != 7) = true := bne_iff_ne.mpr c5
   replace H := Option.bind_eq_some_iff.mp H
   obtain ⟨t543, A80, H⟩ := H
   try dsimp only at H
   have A8 := zk A80
   clear A80
   by_cases c9 : t543 = true
   rotate_left
   · replace c9 := Bool.eq_false_iff.mpr c9
     subst c9
     have H1 : (some ((([] : List Int)), false)) = some (r1, r2) := by rw [if_neg (show ¬ (false = true) by decide)] at H; exact H
     clear H
     have H := H1
     clear H1
     obtain ⟨y547, hy547⟩ : ∃ y_ : List Int, y_ = (([] : List Int)) := ⟨_, rfl⟩
     replace H : (some (y547, false)) = some (r1, r2) := by first | (rw [hy547]; with_reducible exact H) | (have H2_ := (Option.bind_some _ _).symm.trans H; rw [hy547]; with_reducible exact H2_) | (have H2_ := (Option.bind_some _ _).symm.trans H; with_reducible exact H2_) | with_reducible exact H | (rw [hy547]; exact H) | exact H
     have Ny547 := zk hy547
     clear hy547
     simp only [Option.some.injEq, Prod.mk.injEq] at H
     obtain ⟨rfl, rfl⟩ := H
     go_enter Try.func121, Try.ntmps121
     go_wp2_with (first | ((with_reducible refine gate_callee (f := 142) rfl ?_); refine zG (some 7) Try.func142 #[.slice A0 l0.length c0] ?_; (with_reducible refine (spec_l2Order.calls k _ _ l0 true _ ?side1 ?side2 A3.out).mono ?_); (case side1 => exact zC HR0.out); (case side2 => exact HC0.out); rintro e w' ⟨rfl, ⟨nd, rfl⟩⟩; refine ⟨_, rfl, ?_⟩) | (go_at_call 154; (with_reducible refine (spec_l1In.calls a1 1 (wrap64 ((l0.length : Int) + 1)) false _ A8.out).mono ?_); rintro e w' ⟨rfl, ⟨nd, rfl⟩⟩) | ((with_reducible refine gate_dst (N := 22) rfl ?_); (try (refine gate_guard (by rfl) ?_; dsimp only)); refine zL 22 3 [] (Below.refl _ _) (Nat.le_refl _) ?_; intro v548 w12 ho13 hb hg_ hnew_; clear hg_ hnew_; (first | rw [← Ny547.out] at ho13 | (simp only [Int.reduceToNat] at ho13; rw [← Ny547.out] at ho13)); have HO549 := zk (Kd.R_lower ho13 (below_size (zB HB))); replace HB := zF HB hb; clear hb ho13))
     go_ret2
     exact ⟨_, by first | rfl | (simp [errW_none, errW_some] <;> rfl) | (simp [*, errW_none, errW_some] <;> rfl), by (with_reducible repeat (first | apply zs | apply zr | apply zt)); exact HO549.out, by repeat (first | exact HB.out | apply za | apply zd | apply ze)⟩
   subst c9
   have H1 : ((spec_l3Insert.f k l0 a1).bind fun t544 => (some (t544, true))) = some (r1, r2) := by rw [if_pos rfl] at H; exact H
   clear H
   have H := H1
   clear H1
   replace H := Option.bind_eq_some_iff.mp H
   obtain ⟨t544, A100, H⟩ := H
   try dsimp only at H
   have A10 := zk A100
   clear A100
   simp only [Option.some.injEq, Prod.mk.injEq] at H
   obtain ⟨rfl, rfl⟩ := H
   go_enter Try.func121, Try.ntmps121
   go_wp2_with (first | ((with_reducible refine gate_callee (f := 142) rfl ?_); refine zG (some 7) Try.func142 #[.slice A0 l0.length c0] ?_; (with_reducible refine (spec_l2Order.calls k _ _ l0 true _ ?side1 ?side2 A3.out).mono ?_); (case side1 => exact zC HR0.out); (case side2 => exact HC0.out); rintro e w' ⟨rfl, ⟨nd, rfl⟩⟩; refine ⟨_, rfl, ?_⟩) | (go_at_call 154; (with_reducible refine (spec_l1In.calls a1 1 (wrap64 ((l0.length : Int) + 1)) true _ A8.out).mono ?_); rintro e w' ⟨rfl, ⟨nd, rfl⟩⟩) | ((with_reducible refine gate_callee (f := 232) rfl ?_); refine zG (some 25) Try.func232 #[.slice A0 l0.length c0, .int .i64 a1] ?_; (with_reducible refine (spec_l3Insert.calls k _ _ l0 a1 t544 _ ?side1 ?side2 A10.out).mono ?_); (case side1 => exact zC HR0.out); (case side2 => exact HC0.out); rintro e w11 ⟨v545, rfl, ho0, hb⟩; refine ⟨_, rfl, ?_⟩; have HO546 := zk (Kd.R_lower ho0 (below_size (zB HB))); replace HB := zF HB hb; (try clear hb ho0)))
   go_ret2
   exact ⟨_, by first | rfl | (simp [errW_none, errW_some] <;> rfl) | (simp [*, errW_none, errW_some] <;> rfl), by (with_reducible repeat (first | apply zs | apply zr | apply zt)); exact HO546.out, by repeat (first | exact HB.out | apply za | apply zd | apply ze)⟩
 rw [if_pos c5] at H
 have c5b0 : ((l0.length : Int) == 7) = true := beq_iff_eq.mpr c5
 have c5b1 : ((l0.length : Int) != 7) = false := bne_eq_false_iff_eq.mpr c5
 clear c5
 obtain ⟨y540, hy540⟩ : ∃ y_ : List Int, y_ = (([] : List Int)) := ⟨_, rfl⟩
 replace H : (some (y540, false)) = some (r1, r2) := by first | (rw [hy540]; with_reducible exact H) | (have H2_ := (Option.bind_some _ _).symm.trans H; rw [hy540]; with_reducible exact H2_) | (have H2_ := (Option.bind_some _ _).symm.trans H; with_reducible exact H2_) | with_reducible exact H | (rw [hy540]; exact H) | exact H
 have Ny540 := zk hy540
 clear hy540
 simp only [Option.some.injEq, Prod.mk.injEq] at H
 obtain ⟨rfl, rfl⟩ := H
 go_enter Try.func121, Try.ntmps121
 go_wp2_with (first | ((with_reducible refine gate_callee (f := 142) rfl ?_); refine zG (some 7) Try.func142 #[.slice A0 l0.length c0] ?_; (with_reducible refine (spec_l2Order.calls k _ _ l0 true _ ?side1 ?side2 A3.out).mono ?_); (case side1 => exact zC HR0.out); (case side2 => exact HC0.out); rintro e w' ⟨rfl, ⟨nd, rfl⟩⟩; refine ⟨_, rfl, ?_⟩) | ((with_reducible refine gate_dst (N := 22) rfl ?_); (try (refine gate_guard (by rfl) ?_; dsimp only)); refine zL 22 3 [] (Below.refl _ _) (Nat.le_refl _) ?_; intro v541 w6 ho7 hb hg_ hnew_; clear hg_ hnew_; (first | rw [← Ny540.out] at ho7 | (simp only [Int.reduceToNat] at ho7; rw [← Ny540.out] at ho7)); have HO542 := zk (Kd.R_lower ho7 (below_size (zB HB))); replace HB := zF HB hb; clear hb ho7))
 go_ret2
 exact ⟨_, by first | rfl | (simp [errW_none, errW_some] <;> rfl) | (simp [*, errW_none, errW_some] <;> rfl), by (with_reducible repeat (first | apply zs | apply zr | apply zt)); exact HO542.out, by repeat (first | exact HB.out | apply za | apply zd | apply ze)⟩

/-! ### spec_DrawMostPlaces: function 122 -/
def spec_DrawMostPlaces.f (k : Nat) (l0 : List Int) : Option (Int × List Int) := (some (([4, 3, 5, 2, 1, 0, 8] : List Int) : List Int)).bind fun y554 => ((spec_l1Cur_pick.f l0 0 0 24).bind fun bt557 => (if 0 ≤ (wrap64 (5 + (wrap64 (Int.tdiv bt557.1 11)))) then (if (wrap64 (5 + (wrap64 (Int.tdiv bt557.1 11)))) ≤ (y554.length : Int) then ((spec_l1Cur_among.f l0 bt557.2.1 bt557.2.2 (y554.take ((wrap64 (5 + (wrap64 (Int.tdiv bt557.1 11)))) : Int).toNat)).bind fun bt564 => ((spec_l1Cur_pattern3.f k l0 bt564.2.1 bt564.2.2).bind fun bt567 => (some (bt564.1, bt567.1)))) else (none)) else (none)))
set_option maxHeartbeats 8000000 in
set_option maxRecDepth 100000 in
theorem spec_DrawMostPlaces.calls (k : Nat) (A0 : Option Addr) (c0 : Nat) (l0 : List Int) (r1 : Int) (r2 : List Int) (w : World) (hr0 : Kd.C (Kd.int .u8) w A0 l0.length l0) (hc0 : l0.length ≤ c0) (h : spec_DrawMostPlaces.f k l0 = some (r1, r2)) :
 Calls Try.prog 122 #[.slice A0 l0.length c0] w fun e w' => ∃ v1_ : Value, e = .returned (.tuple #[.int .i64 r1, v1_]) ∧ Kd.R (Kd.int .i64) 3 w' w.heap.size (fun _ => True) v1_ r2 ∧ Below w.heap.size w w' := by
 have hu102 := Try.underlying102
 have HR0 := zk hr0
 have HC0 := zk hc0
 clear hr0 hc0
 have HB := zk (Below.refl w.heap.size w)
 have H := h
 unfold spec_DrawMostPlaces.f at H
 clear h
 obtain ⟨y554, hy554⟩ : ∃ y_ : List Int, y_ = (([4, 3, 5, 2, 1, 0, 8] : List Int)) := ⟨_, rfl⟩
 rw [← hy554] at H
 try rw [zO y554] at H
 try dsimp only at H
 have Ny554 := zk hy554
 clear hy554
 replace H := Option.bind_eq_some_iff.mp H
 obtain ⟨⟨t557, t558, t559⟩, A20, H⟩ := H
 try dsimp only at H
 have A2 := zk A20
 clear A20
 obtain ⟨ji3, hji3⟩ : ∃ j_ : Int, (wrap64 (5 + (wrap64 (Int.tdiv t557 11)))) = j_ := ⟨_, rfl⟩
 replace H : (if 0 ≤ (ji3) then (if (ji3) ≤ (y554.length : Int) then ((spec_l1Cur_among.f l0 t558 t559 (y554.take ((ji3) : Int).toNat)).bind fun bt564 => ((spec_l1Cur_pattern3.f k l0 bt564.2.1 bt564.2.2).bind fun bt567 => (some (bt564.1, bt567.1)))) else (none)) else (none)) = some (r1, r2) := by first | (rw [hji3] at H; exact H) | (simp only [hji3] at H ⊢; exact H)
 (try rw [hji3] at A2)
 have hji3w : (IntKind.i64.wrap (5 + (wrap64 (Int.tdiv t557 11)))) = ji3 := (i64_w _).trans hji3
 by_cases c4 : 0 ≤ (ji3)
 rotate_left
 · rw [if_neg c4] at H
   exact absurd H (by simp)
 rw [if_pos c4] at H
 have c4b0 := eq_true c4
 have c4b1 := decide_eq_true c4
 clear c4
 by_cases c5 : (ji3) ≤ (y554.length : Int)
 rotate_left
 · rw [if_neg c5] at H
   exact absurd H (by simp)
 rw [if_pos c5] at H
 have c5b0 := eq_true c5
 have c5b1 := decide_eq_true c5
 clear c5
 obtain ⟨y560, hy560⟩ : ∃ y_ : List Int, y_ = (y554.take ((ji3) : Int).toNat) := ⟨_, rfl⟩
 rw [← hy560] at H
 try rw [zO y560] at H
 try dsimp only at H
 have Ny560 := zk hy560
 clear hy560
 replace H := Option.bind_eq_some_iff.mp H
 obtain ⟨⟨t564, t565, t566⟩, A60, H⟩ := H
 try dsimp only at H
 have A6 := zk A60
 clear A60
 replace H := Option.bind_eq_some_iff.mp H
 obtain ⟨⟨t567, t570, t571⟩, A70, H⟩ := H
 try dsimp only at H
 have A7 := zk A70
 clear A70
 simp only [Option.some.injEq, Prod.mk.injEq] at H
 obtain ⟨rfl, rfl⟩ := H
 go_enter Try.func122, Try.ntmps122
 go_wp2_with (first | ((with_reducible refine gate_dst (N := 7) rfl ?_); refine box_event ?hg (N := 7) ?hd (cs := #[.slice A0 l0.length c0, .int .i64 0, .int .u64 0]) (t := 102) ?hr ?_; (case hd => rfl); (case hg => rfl); (case hr => first | (go_simp; done) | (go_simp; rfl)); intro gb553 hg w8 hbox hb; have HI553 := zk ((⟨_, _, hbox, (by rw [hg]; exact (below_size (zB HB)) : w.heap.size ≤ gb553), HR0.out⟩ : IsS102 w _ gb553 l0 0 0)); have GW553 := zk ((by rw [hg]; exact (below_size (zB HB)) : w.heap.size ≤ gb553)); have GE553 := zk ((by rw [hg]; exact (below_size (zB HB)) : w.heap.size ≤ gb553)); replace HB := zF HB hb; clear hb hbox hg) | ((with_reducible refine gate_dst (N := 9) rfl ?_); refine zL 9 3 [4, 3, 5, 2, 1, 0, 8] (Below.refl _ _) (Nat.le_refl _) ?_; intro v555 w9 ho10 hb hg_ hnew_; clear hg_ hnew_; (first | rw [← Ny554.out] at ho10 | (simp only [Int.reduceToNat] at ho10; rw [← Ny554.out] at ho10)); have HO556 := zk (Kd.R_lower ho10 (below_size (zBs HB (IsS102.ge HI553.out)))); replace HB := zk (below_step (zBs HB (IsS102.ge HI553.out)) hb); replace HI553 := zk (IsS102.below (by repeat (first | exact HI553.out | apply IsS102.alloc | apply IsS102.drewN | apply IsS102.drew | apply IsS102.set_1 | apply IsS102.set_2)) hb); clear hb ho10) | ((with_reducible refine gate_callee (f := 192) rfl ?_); refine zG (some 11) Try.func192 #[.pointer (some ⟨gb553, 0, none⟩), .int .i64 24] ?_; (with_reducible refine (spec_l1Cur_pick.calls gb553 l0 0 0 24 t557 t558 t559 w _ ?side1 ?side2 A2.out).mono ?_); (case side1 => repeat (first | exact HI553.out | apply IsS102.alloc | apply IsS102.drewN | apply IsS102.drew | apply IsS102.set_1 | apply IsS102.set_2)); (case side2 => exact zBs HB (IsS102.ge HI553.out)); rintro e w11 ⟨rfl, hi, hb, hk⟩; refine ⟨_, rfl, ?_⟩; replace HO556 := zk (Kd.R_mono (Kd.R_keep (IsS102.apart (show IsS102 w _ gb553 l0 0 0 from by repeat (first | exact HI553.out | apply IsS102.alloc | apply IsS102.drewN | apply IsS102.drew | apply IsS102.set_1 | apply IsS102.set_2)) (zR HO556) (by decide)) hk (fun _ h => h.2)) (fun _ h => h.1)); replace HB := zk (hb); replace HI553 := zk (hi); (try clear hb); (try clear hb2); (try clear hk); (try clear hi); obtain ⟨Ao13, co13, eo13⟩ := Kd.R_slice HO556.out; subst eo13; have q12 : ((ji3) : Int) ≤ ((y554.length : Int) : Int) := zo (by assumption); obtain ⟨i012, hi012, _, hsz12, _⟩ := info_parts info3; have hroom12 : y554.length ≤ co13 := (Kd.R_reads' HO556.out).2.1; have hC12 : Kd.C (Kd.int .i64) _ Ao13 y554.length y554 := (Kd.R_reads' HO556.out).2.2; have hcut12 := cut_to (P := Try.prog) 22 3 .i64 Try.underlying22 hi012 Ao13 y554.length co13 (ji3) (zo (by assumption)) q12 hroom12; have hr12 := Kd.C_take (m := ((ji3) : Int).toNat) hC12 (by omega); have hy12 : y560.length = ((ji3) : Int).toNat := (by rw [Ny560.out, List.length_take]; omega); rw [← Ny560.out] at hr12; rw [← hy12] at hcut12; have HR563 := zk hr12; have HC563 := zk (show y560.length ≤ co13 from by omega); clear hr12 hC12 hroom12 hi012 hsz12; have KY12 := zk hy12; clear hy12; have KL12 := zk (show ((ji3) : Int).toNat ≤ y554.length from by omega); replace q12 := eq_true q12) | ((with_reducible refine gate_callee (f := 195) rfl ?_); refine zG (some 15) Try.func195 #[.pointer (some ⟨gb553, 0, none⟩), .slice Ao13 y560.length co13] ?_; (with_reducible refine (spec_l1Cur_among.calls gb553 l0 t558 t559 _ _ y560 t564 t565 t566 w _ ?side1 ?side2 ?side3 ?side4 ?side5 A6.out).mono ?_); (case side1 => repeat (first | exact HI553.out | apply IsS102.alloc | apply IsS102.drewN | apply IsS102.drew | apply IsS102.set_1 | apply IsS102.set_2)); (case side2 => exact zBs HB (IsS102.ge HI553.out)); (case side3 => exact zC HR563.out); (case side4 => exact HC563.out); (case side5 => exact fun ad_ e_ h_ => far_slice (IsS102.own_ne HI553.out HO556.out (by decide)) ad_ e_ (by have a_ := KY12.out; have b_ := KL12.out; omega)); rintro e w14 ⟨rfl, hi, hb, hk⟩; refine ⟨_, rfl, ?_⟩; replace HO556 := zk (Kd.R_mono (Kd.R_keep (IsS102.apart (show IsS102 w _ gb553 l0 t558 t559 from by repeat (first | exact HI553.out | apply IsS102.alloc | apply IsS102.drewN | apply IsS102.drew | apply IsS102.set_1 | apply IsS102.set_2)) (zR HO556) (by decide)) hk (fun _ h => h.2)) (fun _ h => h.1)); replace HB := zk (hb); replace HI553 := zk (hi); (try clear hb); (try clear hb2); (try clear hk); (try clear hi)) | ((with_reducible refine gate_callee (f := 233) rfl ?_); refine zG (some 17) Try.func233 #[.pointer (some ⟨gb553, 0, none⟩)] ?_; (with_reducible refine (spec_l1Cur_pattern3.calls k gb553 l0 t565 t566 t567 t570 t571 w _ ?side1 ?side2 A7.out).mono ?_); (case side1 => repeat (first | exact HI553.out | apply IsS102.alloc | apply IsS102.drewN | apply IsS102.drew | apply IsS102.set_1 | apply IsS102.set_2)); (case side2 => exact zBs HB (IsS102.ge HI553.out)); rintro e w15 ⟨v568, rfl, ho0, hi, hb, hk⟩; refine ⟨_, rfl, ?_⟩; have HO569 := zk (Kd.R_lower (Kd.R_new' ho0 (Kd.R_lt (zR HO556))) (below_size (zBs HB (IsS102.ge HI553.out)))); replace HO556 := zk (Kd.R_mono (Kd.R_told (Kd.R_oldK (IsS102.apart (show IsS102 w _ gb553 l0 t565 t566 from by repeat (first | exact HI553.out | apply IsS102.alloc | apply IsS102.drewN | apply IsS102.drew | apply IsS102.set_1 | apply IsS102.set_2)) (zR HO556) (by decide)) hk) (Kd.R_base ho0)) (fun _ h_ => h_.1)); replace HB := zk (hb); replace HI553 := zk (hi); (try clear hb hk hi ho0)))
 go_ret2
 exact ⟨_, by first | rfl | (simp [errW_none, errW_some] <;> rfl) | (simp only [← hji3]; first | rfl | (simp [errW_none, errW_some] <;> rfl)) | (simp [*, errW_none, errW_some] <;> rfl), by (with_reducible repeat (first | apply zs | apply zr | apply zt)); exact Kd.R_mono HO569.out (fun _ hk => trivial), by repeat (first | (with_reducible first | exact HB.out | apply za | apply zd | apply ze | refine below_set ?_ (IsS102.ge HI553.out)) | exact HB.out)⟩

/-! ### impl_countPlaces: function 234 -/
section
open Go.Proofs.Ytlkddcabjcejdaa.Base
set_option maxHeartbeats 8000000 in
set_option maxRecDepth 100000 in
theorem choose_add_cp {σ : Type} (f : σ → List Int → σ × Bool) (I : σ → World → Prop) (S : Nat → Prop) (c1_ c2_ c3_ : Value) (n many bS gm gw gn ga : Nat)
 (hI : ∀ s W W', I s W → Below W.heap.size W W' → I s W')
 (hcb : ∀ s W A c xs, I s W → bS ≤ W.heap.size → Kd.R (Kd.int .i64) 3 W bS (fun k => ¬ S k) (.slice A xs.length c) xs → xs.length = many → (∀ x ∈ xs, 0 ≤ x ∧ x < (n : Int)) → Calls Try.prog 264 #[.slice A xs.length c, c1_, c2_, c3_] W fun e w' => e = .returned (.bool (f s xs).2) ∧ I (f s xs).1 w' ∧ Fr S W w')
 (hSlt : ∀ k, S k → k < bS) (hs1 : ¬ S gm) (hs2 : ¬ S gw) (hs3 : ¬ S gn) (hs4 : ¬ S ga) (hn : n < 1073741824) :
 ∀ (r : Nat) (A : Option Addr) (c : Nat) (xs : List Int) (s : σ) (W : World), xs.length + r ≤ n → (∀ x ∈ xs, 0 ≤ x ∧ x < (n : Int)) → I s W → bS ≤ W.heap.size →
  Ch 3 27 39 W gm gw gn ga (.int .i64 (many : Int)) (.func (.func 264) #[] #[c1_, c2_, c3_]) (.int .i64 (n : Int)) (.func (.func 247) #[] #[.pointer (some ⟨gm, 0, none⟩), .pointer (some ⟨gw, 0, none⟩), .pointer (some ⟨gn, 0, none⟩), .pointer (some ⟨ga, 0, none⟩)]) →
  Kd.R (Kd.int .i64) 3 W bS (fun k => ¬ S k) (.slice A xs.length c) xs →
  Calls Try.prog 247 #[.slice A xs.length c, .int .i64 ((n - r : Nat) : Int), .pointer (some ⟨gm, 0, none⟩), .pointer (some ⟨gw, 0, none⟩), .pointer (some ⟨gn, 0, none⟩), .pointer (some ⟨ga, 0, none⟩)] W fun e w' => e = .returned (.bool (addG f n many r xs s).2) ∧ I (addG f n many r xs s).1 w' ∧ Fr S W w' := by
 have HII := zk hI
 have HCB := zk hcb
 clear hI hcb
 intro r
 induction r using Nat.strongRecOn with
 | ind r IH =>
  have HIH := zk IH
  clear IH
  intro A c xs s W hxr hxq hIs hbs hch hr
  have HCh0 := zk hch
  have HR0 := zk hr
  have HXQ := zk hxq
  clear hxq
  have HI0 := zk hIs
  clear hch hr hIs
  have cM := cell_of_one HCh0.out.hm
  have cW := cell_of_one HCh0.out.hw
  by_cases hm : xs.length = many
  · have hmb : ((xs.length : Int) == (many : Int)) = true := by simp [hm]
    have ea : addG f n many r xs s = f s xs := by unfold addG; rw [if_pos hm]
    rw [ea]
    have HM := zk hm
    clear hm ea
    go_enter Try.func247, Try.ntmps247
    go_wp2_with (go_at_call 264; refine (HCB.out s W A c xs HI0.out hbs HR0.out HM.out HXQ.out).mono ?_; rintro e_ w2 ⟨rfl, h1, h2⟩; have HX := zk (And.intro h1 h2); clear h1 h2)
    go_ret
    exact ⟨rfl, HX.out⟩
  · have hmb : ((xs.length : Int) == (many : Int)) = false := by simp; omega
    have ea : addG f n many r xs s = loopG f n many r xs s := by unfold addG; rw [if_neg hm]
    rw [ea]
    clear cW
    obtain ⟨R, hR⟩ : ∃ R, loopG f n many r xs s = R := ⟨_, rfl⟩
    rw [hR]
    have HP := zk hR
    clear hR ea
    go_enter Try.func247, Try.ntmps247
    go_wp2
    go_loopg [9] r (fun kq v9 wr => ∃ (r1 : Nat) (s1 : σ), v9 = .int .i64 ((n - r1 : Nat) : Int) ∧ kq = r1 ∧ r1 ≤ r ∧ Aside0 (loopG f n many r1 xs s1 = R) ∧ Aside0 (I s1 wr) ∧ Aside0 (Fr S W wr))
    case atStart => exact ⟨r, s, rfl, rfl, Nat.le_refl _, HP, HI0, ⟨Fr.refl _ _⟩⟩
    case round =>
     clear HP HI0 cM
     obtain ⟨r1, s1, rfl, hkq, hrr, HP, HI, HF⟩ := hrel
     obtain rfl : r1 = gk := hkq.symm
     have HCh := zk (HCh0.out.fr HF.out hs1 hs2 hs3 hs4)
     have HR := zk (R_fr HR0.out HF.out)
     have cN := cell_of_one HCh.out.hn
     cases r1 with
     | zero =>
      have e := HP.out
      simp only [loopG] at e
      subst e
      go_wp2
      go_ret
      exact ⟨rfl, HI.out, HF.out⟩
     | succ r1 =>
      have hlt : ((n - (r1 + 1) : Nat) : Int) < (n : Int) := by omega
      have hltb : decide (((n - (r1 + 1) : Nat) : Int) < (n : Int)) = true := decide_eq_true hlt
      have hw64 : wrap64 (((n - (r1 + 1) : Nat) : Int) + 1) = ((n - r1 : Nat) : Int) := by unfold wrap64; omega
      have HW64 := zk hw64
      clear hw64
      go_upto_region 6 with (fail)
      have hw64 := HW64.out
      refine start_ (n := 9) (S := fun w' => w'.cell? ⟨ga, 0, none⟩ = some (Value.func (Fn.func 247) #[] #[.pointer (some ⟨gm, 0, none⟩), .pointer (some ⟨gw, 0, none⟩), .pointer (some ⟨gn, 0, none⟩), .pointer (some ⟨ga, 0, none⟩)])) (ds := []) #[false, false, false, false, false, false, false, false, false] (by kernel_rfl) rfl rfl (cell_of_one HCh.out.ha) (fun hHeld => ?_)
      have HR := zk (zt HR.out)
      have HCh := zk (HCh.out.fr (S := S) (Fr.of_below (below_drew (Below.refl _ _))) hs1 hs2 hs3 hs4)
      replace HF := zk (HF.out.trans (Fr.of_below (below_drew (Below.refl _ _))))
      replace HI := zk (HII.out _ _ _ HI.out (below_drew (Below.refl _ _)))
      generalize World.drew _ = w1 at HF HI HR HCh hHeld ⊢
      have HB := zk (Below.refl w1.heap.size w1)
      refine zP (i := 1) (N := some 24) #[false, true, false, false, false, false, false, false, false] ?_
      refine zP (i := 3) (N := some 26) #[false, true, false, true, false, false, false, false, false] ?_
      refine zP (i := 6) (N := some 29) #[false, true, false, true, false, false, true, false, false] ?_
      refine zP (i := 7) (N := some 30) #[false, true, false, true, false, false, true, true, false] ?_
      refine take_ (i := 0) (N := some 23) (v := ?_) (a' := ?_) #[true, true, false, true, false, false, true, true, false] rfl rfl (by kernel_rfl) (fun _ _ _ h => h) (Or.inl ⟨by rfl, ?_⟩) hHeld ?_ ?_
      rotate_left
      · intro w' s0
        go_simp
        with_reducible rfl
      rotate_left
      · exact zQ
      refine join_ (σ := Value × Value) 2 #[true, true, true, true, true, false, true, true, false] (fun s_ => [(25, s_.1), (27, s_.2)]) (fun s_ w' => (w'.cell? ⟨ga, 0, none⟩ = some (Value.func (Fn.func 247) #[] #[.pointer (some ⟨gm, 0, none⟩), .pointer (some ⟨gw, 0, none⟩), .pointer (some ⟨gn, 0, none⟩), .pointer (some ⟨ga, 0, none⟩)])) ∧ Aside0 (Below w1.heap.size w1 w') ∧ Aside0 (Kd.R (Kd.int .i64) 3 w' w1.heap.size (fun _ => True) s_.1 xs) ∧ Aside0 (Kd.R (Kd.int .i64) 3 w' w1.heap.size (fun _ => True) s_.2 [((n - (r1 + 1) : Nat) : Int)])) ?_ ?_
      rotate_left
      · intro hCont
        refine two_ (i := 2) (j := 4) (Ni := some 25) (Nj := some 27) #[true, true, true, true, false, false, true, true, false] #[true, true, false, true, true, false, true, true, false] rfl rfl rfl rfl (by kernel_rfl) (by decide) (by decide) (fun K hK => ?_) (fun K hK => ?_)
        · skip
          refine goes_ Try.func248 (by kernel_rfl) rfl #[.slice A xs.length c] (by rfl) rfl rfl (by simp only [List.map_toArray, List.map_cons, List.map_nil]; rfl) ?_
          with_reducible refine (slices_Clone_int_int.calls A c xs xs _ (Kd.R_reads' (Kd.R_below HR.out HB.out)).2.2 (Kd.R_reads' HR.out).2.1 (by unfold slices_Clone_int_int.f; rw [if_pos (by omega)])).mono ?_
          rintro e_ w3 ⟨v25, rfl, hR25, hb3⟩
          have hz2 := HB.out.size
          have HR25 := zk (Kd.R_lower hR25 hz2)
          replace HB := zk (below_step HB.out hb3)
          clear hz2 hR25 hb3
          refine ⟨_, rfl, ?_⟩
          refine hK.out _ _ (cell_of_one (HCh.out.fr (Fr.of_below (S := S) HB.out) hs1 hs2 hs3 hs4).ha) (fun hHeld => ?_)
          clear hK K
          refine zM 25 ?_
          refine one_ (i := 4) (N := some 27) #[true, true, true, true, true, false, true, true, false] rfl rfl (by kernel_rfl) (by decide) (fun K hK => ?_)
          have hz4 := HB.out.size
          refine Kd.R_lit_step (Kd.int .i64) _ 3 ?hg (N := 27) ?hd (xs := ([((n - (r1 + 1) : Nat) : Int)] : List Int)) (inner := [.int .i64 ((n - (r1 + 1) : Nat) : Int)]) (ok := fun _ => True) (okp := fun _ => True) ?hr ?hp (fun _ hk => hk) trivial (Below.refl _ _) (Nat.le_refl _) (by simp) ?_; (case hd => rfl); (case hg => rfl); (case hr => first | (go_simp; done) | (go_simp; rfl)); (case hp => exact (Reps.one (show Kd.M (Kd.int .i64) _ _ _ _ [.int .i64 _] from rfl) (Reps.none _ _)))
          intro v27 w4 hL4 hb4 hg4 hn4
          have HL27 := zk (Kd.R_lower hL4 hz4)
          replace HR25 := zk (Kd.R_below HR25.out hb4)
          replace HB := zk (below_step HB.out hb4)
          clear hz4 hL4 hb4 hg4 hn4
          refine hK.out _ _ (cell_of_one (HCh.out.fr (Fr.of_below (S := S) HB.out) hs1 hs2 hs3 hs4).ha) (fun hHeld => ?_)
          clear hK K
          refine zM 27 ?_
          exact norm_ (by simp only [putAll, Act.put, List.setIfInBounds_toArray, List.set_cons_zero, List.set_cons_succ]) (hCont (v25, v27) _ ⟨hHeld, HB, HR25, HL27⟩)
        · skip
          have hz4 := HB.out.size
          refine Kd.R_lit_step (Kd.int .i64) _ 3 ?hg (N := 27) ?hd (xs := ([((n - (r1 + 1) : Nat) : Int)] : List Int)) (inner := [.int .i64 ((n - (r1 + 1) : Nat) : Int)]) (ok := fun _ => True) (okp := fun _ => True) ?hr ?hp (fun _ hk => hk) trivial (Below.refl _ _) (Nat.le_refl _) (by simp) ?_; (case hd => rfl); (case hg => rfl); (case hr => first | (go_simp; done) | (go_simp; rfl)); (case hp => exact (Reps.one (show Kd.M (Kd.int .i64) _ _ _ _ [.int .i64 _] from rfl) (Reps.none _ _)))
          intro v27 w4 hL4 hb4 hg4 hn4
          have HL27 := zk (Kd.R_lower hL4 hz4)
          replace HB := zk (below_step HB.out hb4)
          clear hz4 hL4 hb4 hg4 hn4
          refine hK.out _ _ (cell_of_one (HCh.out.fr (Fr.of_below (S := S) HB.out) hs1 hs2 hs3 hs4).ha) (fun hHeld => ?_)
          clear hK K
          refine zM 27 ?_
          refine one_ (i := 2) (N := some 25) #[true, true, true, true, true, false, true, true, false] rfl rfl (by kernel_rfl) (by decide) (fun K hK => ?_)
          refine goes_ Try.func248 (by kernel_rfl) rfl #[.slice A xs.length c] (by rfl) rfl rfl (by simp only [List.map_toArray, List.map_cons, List.map_nil]; rfl) ?_
          with_reducible refine (slices_Clone_int_int.calls A c xs xs _ (Kd.R_reads' (Kd.R_below HR.out HB.out)).2.2 (Kd.R_reads' HR.out).2.1 (by unfold slices_Clone_int_int.f; rw [if_pos (by omega)])).mono ?_
          rintro e_ w3 ⟨v25, rfl, hR25, hb3⟩
          have hz2 := HB.out.size
          have HR25 := zk (Kd.R_lower hR25 hz2)
          replace HL27 := zk (Kd.R_below HL27.out hb3)
          replace HB := zk (below_step HB.out hb3)
          clear hz2 hR25 hb3
          refine ⟨_, rfl, ?_⟩
          refine hK.out _ _ (cell_of_one (HCh.out.fr (Fr.of_below (S := S) HB.out) hs1 hs2 hs3 hs4).ha) (fun hHeld => ?_)
          clear hK K
          refine zM 25 ?_
          exact norm_ (by simp only [putAll, Act.put, List.setIfInBounds_toArray, List.set_cons_zero, List.set_cons_succ]) (hCont (v25, v27) _ ⟨hHeld, HB, HR25, HL27⟩)
      clear HB hHeld
      rintro ⟨v25, v27⟩ w6 ⟨hHeld, HB, HR25, HL27⟩
      obtain ⟨A25, c25, e25⟩ := Kd.R_slice HR25.out
      obtain ⟨A27, c27, e27⟩ := Kd.R_slice HL27.out
      simp only at e25 e27
      subst e25
      subst e27
      refine norm_ (a' := ?_) ?_ ?_
      rotate_left
      · simp only [putAll, Act.put, List.setIfInBounds_toArray, List.set_cons_zero, List.set_cons_succ]
        rfl
      refine one_ (i := 5) (N := some 28) #[true, true, true, true, true, true, true, true, false] rfl rfl (by kernel_rfl) (by decide) (fun K hK => ?_)
      refine Kd.R_append_rows_step (Kd.int .i64) (w0 := w1) w1.heap.size (by rfl) (.tmp 25) (.tmp 27) 22 3 (.int .i64 0) 8 rfl Try.underlying22 info3 rfl (by decide) (by omega) (.slice A25 xs.length c25) xs [((n - (r1 + 1) : Nat) : Int)] _ _ _ (fun _ => True) (fun _ => False) rfl rfl HR25.out (Kd.R_reads' HL27.out).2.2 (fun _ _ h => h) (fun _ h => h.elim) (fun _ _ => trivial) HB.out HB.out.size (by simp only [List.length_cons, List.length_nil]; omega) ?_
      intro v28 w7 ho7 hb7 hg7 hat7
      obtain ⟨A28, c28, e28⟩ := Kd.R_slice ho7
      subst e28
      replace HB := zk hb7
      have HR28 := zk ho7
      clear hat7 hg7 hb7 ho7 HL27 HR25
      refine hK.out _ _ (cell_of_one (HCh.out.fr (Fr.of_below (S := S) HB.out) hs1 hs2 hs3 hs4).ha) (fun hHeld => ?_)
      clear hK K
      refine zM 28 ?_
      refine one_ (i := 8) (N := some 31) #[true, true, true, true, true, true, true, true, true] rfl rfl (by kernel_rfl) (by decide) (fun K hK => ?_)
      obtain ⟨P8, hP8⟩ : ∃ p, addG f n many r1 (xs ++ [((n - (r1 + 1) : Nat) : Int)]) s1 = p := ⟨_, rfl⟩
      have hbw : bS ≤ w1.heap.size := Nat.le_trans hbs HF.out.size
      have HC7 := zk (HCh.out.fr (S := S) (Fr.of_below HB.out) hs1 hs2 hs3 hs4)
      have HR7 := zk (show Kd.R (Kd.int .i64) 3 w7 bS (fun k => ¬ S k) (.slice A28 (xs ++ [((n - (r1 + 1) : Nat) : Int)]).length c28) (xs ++ [((n - (r1 + 1) : Nat) : Int)]) from Kd.R_of_own (Kd.own_of_R (Kd.R_lower HR28.out hbw)) (fun k hk hs => by have := Kd.R_base HR28.out k hk; have := hSlt k hs; omega))
      have H8 := HIH.out r1 (by omega) A28 c28 (xs ++ [((n - (r1 + 1) : Nat) : Int)]) s1 w7 (by simp; omega) (fun x hx => by rcases List.mem_append.1 hx with hx | hx; exact HXQ.out x hx; (have hx := List.mem_singleton.1 hx; omega)) (HII.out _ _ _ HI.out HB.out) (Nat.le_trans hbw HB.out.size) HC7.out HR7.out
      rw [← hw64] at H8
      refine call_ 247 #[.slice A28 (xs ++ [((n - (r1 + 1) : Nat) : Int)]).length c28, .int .i64 (wrap64 (((n - (r1 + 1) : Nat) : Int) + 1)), .pointer (some ⟨gm, 0, none⟩), .pointer (some ⟨gw, 0, none⟩), .pointer (some ⟨gn, 0, none⟩), .pointer (some ⟨ga, 0, none⟩)] (by rfl) rfl ?hrun8 ?_; (case hrun8 => clear H8; go_simp; (try rfl); trace_state)
      with_reducible refine H8.mono ?_
      rintro e8 w8 ⟨he8, hI8, hF8⟩
      rw [hP8] at he8 hI8
      subst he8
      obtain ⟨s8, b8⟩ := P8
      simp only at hI8
      have HX := zk (And.intro hI8 hF8)
      have HC8 := zk (HC7.out.fr hF8 hs1 hs2 hs3 hs4)
      have HP8 := zk hP8
      clear hI8 hF8 H8 hP8
      refine ⟨_, rfl, ?_⟩
      refine hK.out _ _ (cell_of_one HC8.out.ha) (fun hHeld => ?_)
      clear hK K
      refine zM 31 ?_
      refine done_ (by kernel_rfl) ?_
      have e := HP.out
      rw [loopG_succ, HP8.out] at e
      have HFF := zk (HF.out.trans ((Fr.of_below HB.out).trans HX.out.2))
      have HI8 := zk HX.out.1
      cases b8 with
      | true =>
       simp only [if_true] at e
       subst e
       try go_wp2
       go_ret
       exact ⟨rfl, HI8.out, HFF.out⟩
      | false =>
       simp only [Bool.false_eq_true, if_false] at e
       have HE := zk e
       clear e
       try go_wp2
       go_roundg r1
       case measure => omega
       case rel => exact ⟨r1, s8, by simp [hw64]; omega, rfl, by omega, HE, HI8, HFF⟩
set_option maxHeartbeats 8000000 in
set_option maxRecDepth 100000 in
theorem choose_calls_cp {σ : Type} (f : σ → List Int → σ × Bool) (I : σ → World → Prop) (S : Nat → Prop) (c1_ c2_ c3_ : Value) (n many : Nat) (s : σ) (w : World)
 (hI : ∀ s W W', I s W → Below W.heap.size W W' → I s W')
 (hcb : ∀ s W A c xs, I s W → w.heap.size ≤ W.heap.size → Kd.R (Kd.int .i64) 3 W w.heap.size (fun k => ¬ S k) (.slice A xs.length c) xs → xs.length = many → (∀ x ∈ xs, 0 ≤ x ∧ x < (n : Int)) → Calls Try.prog 264 #[.slice A xs.length c, c1_, c2_, c3_] W fun e w' => e = .returned (.bool (f s xs).2) ∧ I (f s xs).1 w' ∧ Fr S W w')
 (hSlt : ∀ k, S k → k < w.heap.size) (hn : n < 1073741824) (hs : I s w) :
 Calls Try.prog 159 #[.int .i64 (n : Int), .int .i64 (many : Int), .func (.func 264) #[] #[c1_, c2_, c3_]] w fun e w' => e = .returned (.tuple #[]) ∧ I (addG f n many n [] s).1 w' ∧ Fr S w w' := by
 have hmf : ∀ (fn : Fn) (first cap : Array Value) (w : World), (Instr.makeFunc fn first cap).run Try.prog w = .ok (.func fn first cap) w := fun _ _ _ _ => rfl
 have HII := zk hI
 have HCB := zk hcb
 have HS := zk hSlt
 have HI := zk hs
 clear hI hcb hSlt hs
 have z1 : ∀ (W : World) (o : Obj), (W.alloc o).heap.size = W.heap.size + 1 := fun W o => by simp
 have hga : ((((w.alloc (Obj.cells #[Value.int IntKind.i64 ↑n]  3)).alloc (Obj.cells #[Value.int IntKind.i64 ↑many]  3)).alloc (Obj.cells #[Value.func (Fn.func 264) #[] #[c1_, c2_, c3_]] 27)).alloc (Obj.cells #[Value.nilFunc] 39)).heap[w.heap.size + 1 + 1 + 1]? = some (.cells #[Value.nilFunc] 39 (0, 0)) := by
  have := blk_new (((w.alloc (Obj.cells #[Value.int IntKind.i64 ↑n]  3)).alloc (Obj.cells #[Value.int IntKind.i64 ↑many]  3)).alloc (Obj.cells #[Value.func (Fn.func 264) #[] #[c1_, c2_, c3_]] 27)) (Obj.cells #[Value.nilFunc] 39)
  rwa [z1, z1, z1] at this
 have zc := cell_of_one hga
 have zf := free_of_one hga
 clear hga
 have hst : ∀ (fn : Fn) (x y : Array Value) (a : Addr) (W : World), (store a (.func fn x y)).run Try.prog W = stored Try.prog W a (.func fn x y) .plain := fun fn x y a W => run_store Try.prog W a _ .plain rfl
 have hbel : Below w.heap.size w (((((w.alloc (Obj.cells #[Value.int IntKind.i64 ↑n]  3)).alloc (Obj.cells #[Value.int IntKind.i64 ↑many]  3)).alloc (Obj.cells #[Value.func (Fn.func 264) #[] #[c1_, c2_, c3_]] 27)).alloc (Obj.cells #[(Value.func (Fn.func 247) #[] #[Value.pointer (some { block := w.heap.size + 1, off := 0 }), Value.pointer (some { block := w.heap.size + 1 + 1, off := 0 }), Value.pointer (some { block := w.heap.size, off := 0 }), Value.pointer (some { block := w.heap.size + 1 + 1 + 1, off := 0 })])] 39)).alloc (Obj.cells #[]  3)) := za (za (za (za (za (Below.refl _ _) _) _) _) _) _
 have hch : Ch 3 27 39 (((((w.alloc (Obj.cells #[Value.int IntKind.i64 ↑n]  3)).alloc (Obj.cells #[Value.int IntKind.i64 ↑many]  3)).alloc (Obj.cells #[Value.func (Fn.func 264) #[] #[c1_, c2_, c3_]] 27)).alloc (Obj.cells #[(Value.func (Fn.func 247) #[] #[Value.pointer (some { block := w.heap.size + 1, off := 0 }), Value.pointer (some { block := w.heap.size + 1 + 1, off := 0 }), Value.pointer (some { block := w.heap.size, off := 0 }), Value.pointer (some { block := w.heap.size + 1 + 1 + 1, off := 0 })])] 39)).alloc (Obj.cells #[]  3)) (w.heap.size + 1) (w.heap.size + 1 + 1) w.heap.size (w.heap.size + 1 + 1 + 1) (.int .i64 (many : Int)) (.func (.func 264) #[] #[c1_, c2_, c3_]) (.int .i64 (n : Int)) (Value.func (Fn.func 247) #[] #[Value.pointer (some { block := w.heap.size + 1, off := 0 }), Value.pointer (some { block := w.heap.size + 1 + 1, off := 0 }), Value.pointer (some { block := w.heap.size, off := 0 }), Value.pointer (some { block := w.heap.size + 1 + 1 + 1, off := 0 })]) := by
  refine ⟨?_, ?_, ?_, ?_⟩
  · exact blk_alloc (blk_alloc (blk_alloc (by have := blk_new (w.alloc (Obj.cells #[Value.int IntKind.i64 ↑n]  3)) (Obj.cells #[Value.int IntKind.i64 ↑many]  3); rwa [z1] at this) _) _) _
  · exact blk_alloc (blk_alloc (by have := blk_new ((w.alloc (Obj.cells #[Value.int IntKind.i64 ↑n]  3)).alloc (Obj.cells #[Value.int IntKind.i64 ↑many]  3)) (Obj.cells #[Value.func (Fn.func 264) #[] #[c1_, c2_, c3_]] 27); rwa [z1, z1] at this) _) _
  · exact blk_alloc (blk_alloc (blk_alloc (blk_alloc (blk_new w (Obj.cells #[Value.int IntKind.i64 ↑n]  3)) _) _) _) _
  · exact blk_alloc (by have := blk_new (((w.alloc (Obj.cells #[Value.int IntKind.i64 ↑n]  3)).alloc (Obj.cells #[Value.int IntKind.i64 ↑many]  3)).alloc (Obj.cells #[Value.func (Fn.func 264) #[] #[c1_, c2_, c3_]] 27)) (Obj.cells #[(Value.func (Fn.func 247) #[] #[Value.pointer (some { block := w.heap.size + 1, off := 0 }), Value.pointer (some { block := w.heap.size + 1 + 1, off := 0 }), Value.pointer (some { block := w.heap.size, off := 0 }), Value.pointer (some { block := w.heap.size + 1 + 1 + 1, off := 0 })])] 39); rwa [z1, z1, z1] at this) _
 have hrow : Kd.R (Kd.int .i64) 3 (((((w.alloc (Obj.cells #[Value.int IntKind.i64 ↑n]  3)).alloc (Obj.cells #[Value.int IntKind.i64 ↑many]  3)).alloc (Obj.cells #[Value.func (Fn.func 264) #[] #[c1_, c2_, c3_]] 27)).alloc (Obj.cells #[(Value.func (Fn.func 247) #[] #[Value.pointer (some { block := w.heap.size + 1, off := 0 }), Value.pointer (some { block := w.heap.size + 1 + 1, off := 0 }), Value.pointer (some { block := w.heap.size, off := 0 }), Value.pointer (some { block := w.heap.size + 1 + 1 + 1, off := 0 })])] 39)).alloc (Obj.cells #[]  3)) w.heap.size (fun k => ¬ S k) (.slice (some { block := w.heap.size + 1 + 1 + 1 + 1, off := 0 }) ([] : List Int).length 0) [] :=
  Kd.R_of_own ⟨rfl, Or.inr ⟨w.heap.size + 1 + 1 + 1 + 1, 0, #[], rfl, by omega, by have := blk_new ((((w.alloc (Obj.cells #[Value.int IntKind.i64 ↑n]  3)).alloc (Obj.cells #[Value.int IntKind.i64 ↑many]  3)).alloc (Obj.cells #[Value.func (Fn.func 264) #[] #[c1_, c2_, c3_]] 27)).alloc (Obj.cells #[(Value.func (Fn.func 247) #[] #[Value.pointer (some { block := w.heap.size + 1, off := 0 }), Value.pointer (some { block := w.heap.size + 1 + 1, off := 0 }), Value.pointer (some { block := w.heap.size, off := 0 }), Value.pointer (some { block := w.heap.size + 1 + 1 + 1, off := 0 })])] 39)) (Obj.cells #[]  3); rwa [z1, z1, z1, z1] at this, Nat.le_refl _, Nat.zero_le _, rfl, rfl⟩⟩ (fun k hk hs => by
   have h1 := HS.out k hs
   have h2 : w.heap.size + 1 + 1 + 1 + 1 = k := by simpa [Value.ownBlock] using hk
   omega)
 have H := choose_add_cp f I S c1_ c2_ c3_ n many w.heap.size (w.heap.size + 1) (w.heap.size + 1 + 1) w.heap.size (w.heap.size + 1 + 1 + 1) HII.out HCB.out HS.out (fun h => by have := HS.out _ h; omega) (fun h => by have := HS.out _ h; omega) (fun h => by have := HS.out _ h; omega) (fun h => by have := HS.out _ h; omega) hn n (some { block := w.heap.size + 1 + 1 + 1 + 1, off := 0 }) 0 [] s (((((w.alloc (Obj.cells #[Value.int IntKind.i64 ↑n]  3)).alloc (Obj.cells #[Value.int IntKind.i64 ↑many]  3)).alloc (Obj.cells #[Value.func (Fn.func 264) #[] #[c1_, c2_, c3_]] 27)).alloc (Obj.cells #[(Value.func (Fn.func 247) #[] #[Value.pointer (some { block := w.heap.size + 1, off := 0 }), Value.pointer (some { block := w.heap.size + 1 + 1, off := 0 }), Value.pointer (some { block := w.heap.size, off := 0 }), Value.pointer (some { block := w.heap.size + 1 + 1 + 1, off := 0 })])] 39)).alloc (Obj.cells #[]  3)) (by simp) (by simp) (HII.out _ _ _ HI.out hbel) hbel.size hch hrow
 rw [show ((n - n : Nat) : Int) = 0 by simp] at H
 have HH := zk H
 have HBel := zk hbel
 clear H hrow hch hbel z1
 go_enter Try.func159, Try.ntmps159
 go_wp2_with (go_at_call 247; refine HH.out.mono ?_; rintro e_ w2 ⟨rfl, h1, h2⟩; have HX := zk (And.intro h1 h2); clear h1 h2)
 go_end0
 exact ⟨rfl, HX.out.1, (Fr.of_below HBel.out).trans HX.out.2⟩
/-- countPlaces' captured variables: the two lists' and the count. -/
structure Cp (tL tI : TypeId) (w0 W : World) (gl gp gm : Nat) (v0 v1 : Value) (s : Int) : Prop where
 hl : W.heap[gl]? = some (.cells #[v0] tL (0, 0))
 hp : W.heap[gp]? = some (.cells #[v1] tL (0, 0))
 hm : W.heap[gm]? = some (.cells #[.int .i64 s] tI (0, 0))
 hb : Below w0.heap.size w0 W
 gm_ : w0.heap.size ≤ gm
 n1 : tL ≠ tI
theorem Cp.below {tL tI : TypeId} {w0 W W' : World} {gl gp gm : Nat} {v0 v1 : Value} {s : Int} (h : Cp tL tI w0 W gl gp gm v0 v1 s) (hb : Below W.heap.size W W') : Cp tL tI w0 W' gl gp gm v0 v1 s :=
 ⟨blk_below h.hl hb, blk_below h.hp hb, blk_below h.hm hb, below_step h.hb hb, h.gm_, h.n1⟩
theorem Cp.put {tL tI : TypeId} {w0 W : World} {gl gp gm : Nat} {v0 v1 : Value} {s : Int} (h : Cp tL tI w0 W gl gp gm v0 v1 s) (s' : Int) : Cp tL tI w0 (W.setCell ⟨gm, 0, none⟩ (.int .i64 s')) gl gp gm v0 v1 s' :=
 ⟨blk_far h.hl (blk_ne h.hl h.hm h.n1) _, blk_far h.hp (blk_ne h.hp h.hm h.n1) _, one_setCell h.hm, h.hb.setCell h.gm_ _, h.gm_, h.n1⟩
set_option maxHeartbeats 8000000 in
set_option maxRecDepth 100000 in
theorem countPlaces_cb (l p : List Int) (A0 A1 : Option Addr) (c0 c1 : Nat) (w0 : World) (gl gp gm : Nat) (atl shp : List Int → List Int) (many : Nat)
 (hl0 : Kd.C (Kd.int .i64) w0 A0 l.length l) (hc0 : l.length ≤ c0) (hp0 : Kd.C (Kd.int .i64) w0 A1 p.length p) (hc1 : p.length ≤ c1)
 (hres : ∀ xs : List Int, xs.length = many → (∀ x ∈ xs, 0 ≤ x ∧ x < (l.length : Int)) → ∃ k1 k2 k3, impl_at.f k1 l xs = some (atl xs) ∧ impl_shape.f k2 (atl xs) = some (shp xs) ∧ slices_Equal_int_int.f k3 (shp xs) p = some (decide (shp xs = p))) :
 ∀ (s : Int) (W : World) (bS : Nat) (A : Option Addr) (c : Nat) (xs : List Int), Cp 22 3 w0 W gl gp gm (.slice A0 l.length c0) (.slice A1 p.length c1) s → Kd.R (Kd.int .i64) 3 W bS (fun k => ¬ (k = gm)) (.slice A xs.length c) xs → xs.length = many → (∀ x ∈ xs, 0 ≤ x ∧ x < (l.length : Int)) →
  Calls Try.prog 264 #[.slice A xs.length c, .pointer (some ⟨gl, 0, none⟩), .pointer (some ⟨gp, 0, none⟩), .pointer (some ⟨gm, 0, none⟩)] W fun e w' => e = .returned (.bool false) ∧ Cp 22 3 w0 w' gl gp gm (.slice A0 l.length c0) (.slice A1 p.length c1) (if shp xs = p then wrap64 (s + 1) else s) ∧ Fr (fun k => k = gm) W w' := by
 intro s W bS A c xs hC hR hx hq
 obtain ⟨s2, hs2⟩ : ∃ s2, (if shp xs = p then wrap64 (s + 1) else s) = s2 := ⟨_, rfl⟩
 rw [hs2]
 have HS2 := zk hs2
 clear hs2
 obtain ⟨k1, k2, k3, h1, h2, h3⟩ := hres xs hx hq
 replace h1 := zk h1
 replace h2 := zk h2
 replace h3 := zk h3
 have HC := zk hC
 have HR := zk hR
 have HL0 := zk hl0
 have HP0 := zk hp0
 clear hC hR hx hq hres hl0 hp0
 go_enter Try.func264, Try.ntmps264
 go_wp2_with (fail)
 refine start_ (n := 6) (S := fun w' => w'.cell? ⟨gl, 0, none⟩ = some (.slice A0 l.length c0) ∧ w'.cell? ⟨gp, 0, none⟩ = some (.slice A1 p.length c1)) (ds := []) #[false, false, false, false, false, false] (by kernel_rfl) rfl rfl ⟨cell_of_one HC.out.hl, cell_of_one HC.out.hp⟩ (fun hHeld => ?_)
 replace HC := zk (HC.out.below (below_drew (Below.refl _ _)))
 replace HR := zk (zt HR.out)
 have HF := zk (Fr.of_below (S := fun k => k = gm) (below_drew (Below.refl W.heap.size W)))
 generalize W.drew = w1 at HC HR HF hHeld ⊢
 have HB := zk (Below.refl w1.heap.size w1)
 refine zP (i := 1) (N := some 7) #[false, true, false, false, false, false] ?_
 refine take_ (i := 0) (N := some 6) (v := ?_) (a' := ?_) #[true, true, false, false, false, false] rfl rfl (by kernel_rfl) (fun _ _ _ h => h) (Or.inl ⟨by rfl, ?_⟩) hHeld ?_ ?_
 rotate_left
 · rintro w' ⟨s0, s1⟩
   go_simp
   with_reducible rfl
 rotate_left
 · exact zQ
 refine take_ (i := 4) (N := some 10) (v := ?_) (a' := ?_) #[true, true, false, false, true, false] rfl rfl (by kernel_rfl) (fun _ _ _ h => h) (Or.inl ⟨by rfl, ?_⟩) hHeld ?_ ?_
 rotate_left
 · rintro w' ⟨s0, s1⟩
   go_simp
   with_reducible rfl
 rotate_left
 · exact zQ
 refine one_ (i := 2) (N := some 8) #[true, true, true, false, true, false] rfl rfl (by kernel_rfl) (by decide) (fun K hK => ?_)
 refine goes_ Try.func162 (by kernel_rfl) rfl #[.slice A0 l.length c0, .slice A xs.length c] (by rfl) rfl rfl (by simp only [List.map_toArray, List.map_cons, List.map_nil]; rfl) ?_
 with_reducible refine (impl_at.calls k1 A0 c0 l A c xs _ _ (Kd.C_below HL0.out HC.out.hb) hc0 (Kd.R_reads' HR.out).2.2 (Kd.R_reads' HR.out).2.1 h1.out).mono ?_
 rintro e_ w2 ⟨v8, rfl, hR8, hb2⟩
 replace HB := zk (below_step HB.out hb2)
 obtain ⟨A8, c8, e8⟩ := Kd.R_slice hR8
 subst e8
 have HR8 := zk hR8
 clear hR8 hb2
 refine ⟨_, rfl, ?_⟩
 refine hK.out _ _ ⟨cell_of_one (blk_below HC.out.hl HB.out), cell_of_one (blk_below HC.out.hp HB.out)⟩ (fun hHeld => ?_)
 clear hK K
 refine zM 8 ?_
 refine one_ (i := 3) (N := some 9) #[true, true, true, true, true, false] rfl rfl (by kernel_rfl) (by decide) (fun K hK => ?_)
 refine goes_ Try.func161 (by kernel_rfl) rfl #[.slice A8 (atl xs).length c8] (by rfl) rfl rfl (by simp only [List.map_toArray, List.map_cons, List.map_nil]; rfl) ?_
 with_reducible refine (impl_shape.calls k2 A8 c8 (atl xs) _ _ (Kd.R_reads' HR8.out).2.2 (Kd.R_reads' HR8.out).2.1 h2.out).mono ?_
 rintro e_ w3 ⟨v9, rfl, hR9, hb3⟩
 replace HB := zk (below_step HB.out hb3)
 obtain ⟨A9, c9, e9⟩ := Kd.R_slice hR9
 subst e9
 have HR9 := zk hR9
 clear hR9 hb3
 refine ⟨_, rfl, ?_⟩
 refine hK.out _ _ ⟨cell_of_one (blk_below HC.out.hl HB.out), cell_of_one (blk_below HC.out.hp HB.out)⟩ (fun hHeld => ?_)
 clear hK K
 refine zM 9 ?_
 refine one_ (i := 5) (N := some 11) #[true, true, true, true, true, true] rfl rfl (by kernel_rfl) (by decide) (fun K hK => ?_)
 refine goes_ Try.func177 (by kernel_rfl) rfl #[.slice A9 (shp xs).length c9, .slice A1 p.length c1] (by rfl) rfl rfl (by simp only [List.map_toArray, List.map_cons, List.map_nil]; rfl) ?_
 with_reducible refine (slices_Equal_int_int.calls k3 A9 c9 (shp xs) A1 c1 p _ _ (Kd.R_reads' HR9.out).2.2 (Kd.R_reads' HR9.out).2.1 (Kd.C_below HP0.out (HC.out.hb.trans (Go.Proofs.Ytlkddcabjcejdaa.Base.below_below HB.out HC.out.hb.size))) hc1 h3.out).mono ?_
 rintro e_ w4 ⟨rfl, q4, rfl⟩
 refine ⟨_, rfl, ?_⟩
 refine hK.out _ _ ⟨by first | exact hHeld.1 | exact cell_of_one (blk_drewN (blk_below HC.out.hl HB.out) _), by first | exact hHeld.2 | exact cell_of_one (blk_drewN (blk_below HC.out.hp HB.out) _)⟩ (fun hHeld => ?_)
 clear hK K
 refine zM 11 ?_
 refine done_ (by kernel_rfl) ?_
 have HB5 := zk (zd HB.out q4)
 have HC5 := zk (HC.out.below HB5.out)
 clear hHeld
 generalize w3.drewN q4 = w5 at HB5 HC5 ⊢
 have cm := cell_of_one HC5.out.hm
 have fm := free_of_one HC5.out.hm
 have HF5 := zk (HF.out.trans (Fr.of_below HB5.out))
 by_cases hsp : shp xs = p
 · have hd : decide (shp xs = p) = true := decide_eq_true hsp
   rw [hd]
   have HSP := zk hsp
   clear hd hsp
   go_wp2
   go_ret
   have e := HS2.out
   rw [if_pos HSP.out] at e
   subst e
   exact ⟨rfl, HC5.out.put _, HF5.out.trans (Fr.set (S := fun k => k = gm) rfl _ _)⟩
 · have hd : decide (shp xs = p) = false := decide_eq_false hsp
   rw [hd]
   have HSP := zk hsp
   clear hd hsp
   go_wp2
   go_ret
   have e := HS2.out
   rw [if_neg HSP.out] at e
   subst e
   exact ⟨rfl, HC5.out, HF5.out⟩
def cpF (l p : List Int) (s : Int) (xs : List Int) : Int × Bool := (if Go.Proofs.Ytlkddcabjcejdaa.Base.shapeL (atG l xs) = p then wrap64 (s + 1) else s, false)
def cpG (l p : List Int) : Int := (addG (cpF l p) l.length p.length l.length [] 0).1
set_option maxHeartbeats 8000000 in
set_option maxRecDepth 100000 in
theorem countPlaces_calls (A0 : Option Addr) (c0 : Nat) (l0 : List Int) (A1 : Option Addr) (c1 : Nat) (l1 : List Int) (w : World) (hr0 : Kd.C (Kd.int .i64) w A0 l0.length l0) (hc0 : l0.length ≤ c0) (hr1 : Kd.C (Kd.int .i64) w A1 l1.length l1) (hc1 : l1.length ≤ c1) (hl : l0.length ≤ 7) (hp : l1.length ≤ 7) :
 Calls Try.prog 234 #[.slice A0 l0.length c0, .slice A1 l1.length c1] w fun e w' => e = .returned (.int .i64 (cpG l0 l1)) ∧ Below w.heap.size w w' := by
 have hmf : ∀ (fn : Fn) (first cap : Array Value) (w : World), (Instr.makeFunc fn first cap).run Try.prog w = .ok (.func fn first cap) w := fun _ _ _ _ => rfl
 have z1 : ∀ (W : World) (o : Obj), (W.alloc o).heap.size = W.heap.size + 1 := fun W o => by simp
 have hc : Cp 22 3 w (((w.alloc (Obj.cells #[Value.slice A0 l0.length c0] 22)).alloc (Obj.cells #[Value.slice A1 l1.length c1] 22)).alloc (Obj.cells #[Value.int IntKind.i64 0]  3)) w.heap.size (w.heap.size + 1) (w.heap.size + 1 + 1) (.slice A0 l0.length c0) (.slice A1 l1.length c1) 0 := by
  refine ⟨?_, ?_, ?_, ?_, by omega, by decide⟩
  · exact blk_alloc (blk_alloc (blk_new w _) _) _
  · exact blk_alloc (by have := blk_new (w.alloc (Obj.cells #[Value.slice A0 l0.length c0] 22)) (Obj.cells #[Value.slice A1 l1.length c1] 22); rwa [z1] at this) _
  · have := blk_new ((w.alloc (Obj.cells #[Value.slice A0 l0.length c0] 22)).alloc (Obj.cells #[Value.slice A1 l1.length c1] 22)) (Obj.cells #[Value.int IntKind.i64 0]  3)
    rwa [z1, z1] at this
  · exact za (za (za (Below.refl _ _) _) _) _
 have hz : (((w.alloc (Obj.cells #[Value.slice A0 l0.length c0] 22)).alloc (Obj.cells #[Value.slice A1 l1.length c1] 22)).alloc (Obj.cells #[Value.int IntKind.i64 0]  3)).heap.size = w.heap.size + 1 + 1 + 1 := by rw [z1, z1, z1]
 have H := choose_calls_cp (cpF l0 l1) (fun s W => Cp 22 3 w W w.heap.size (w.heap.size + 1) (w.heap.size + 1 + 1) (.slice A0 l0.length c0) (.slice A1 l1.length c1) s) (fun k => k = w.heap.size + 1 + 1) (.pointer (some ⟨w.heap.size, 0, none⟩)) (.pointer (some ⟨w.heap.size + 1, 0, none⟩)) (.pointer (some ⟨w.heap.size + 1 + 1, 0, none⟩)) l0.length l1.length 0 _ (fun s W W' h hb => h.below hb)
  (fun s W A c xs hI hsz hR hx hq => by
   refine (countPlaces_cb l0 l1 A0 A1 c0 c1 w w.heap.size (w.heap.size + 1) (w.heap.size + 1 + 1) (atG l0) (fun xs => Go.Proofs.Ytlkddcabjcejdaa.Base.shapeL (atG l0 xs)) l1.length hr0 hc0 hr1 hc1 (cp_res l0 l1 hp) s W _ A c xs hI hR hx hq).mono ?_
   rintro e w' ⟨rfl, h1, h2⟩
   exact ⟨rfl, h1, h2⟩) (fun k hk => by rw [hz, hk]; omega) (by omega) hc
 have HH := zk H
 have HC := zk hc
 clear H hc hz z1 hr0 hr1
 go_enter Try.func234, Try.ntmps234
 go_wp2_with (go_at_call 159; refine HH.out.mono ?_; rintro e_ w2 ⟨rfl, h1, h2⟩; have c12 := cell_of_one h1.hm; have HX := zk h1; clear h1 h2)
 go_ret
 exact ⟨rfl, HX.out.hb⟩
def impl_countPlaces.f (l0 : List Int) (l1 : List Int) : Option Int := if l0.length ≤ 7 ∧ l1.length ≤ 7 then some (cpG l0 l1) else none
theorem impl_countPlaces.calls (A0 : Option Addr) (c0 : Nat) (l0 : List Int) (A1 : Option Addr) (c1 : Nat) (l1 : List Int) (r : Int) (w : World) (hr0 : Kd.C (Kd.int .i64) w A0 l0.length l0) (hc0 : l0.length ≤ c0) (hr1 : Kd.C (Kd.int .i64) w A1 l1.length l1) (hc1 : l1.length ≤ c1) (h : impl_countPlaces.f l0 l1 = some r) :
 Calls Try.prog 234 #[.slice A0 l0.length c0, .slice A1 l1.length c1] w fun e w' => e = .returned (.int .i64 r) ∧ Below w.heap.size w w' := by
 unfold impl_countPlaces.f at h
 by_cases hl : l0.length ≤ 7 ∧ l1.length ≤ 7
 · rw [if_pos hl] at h
   obtain rfl := Option.some.inj h
   exact countPlaces_calls A0 c0 l0 A1 c1 l1 w hr0 hc0 hr1 hc1 hl.1 hl.2
 · rw [if_neg hl] at h; cases h
end

/-! ### impl_MostPlaces: function 123 -/
section
open Go.Proofs.Ytlkddcabjcejdaa.Base
def impl_MostPlaces.go (l1 : List Int) : List (List Int) → List Int → Int → Option (List Int × Int × Bool)
 | [], b, m => some (b, m, true)
 | c :: s, b, m => (impl_countPlaces.f c l1).bind fun q => if q > m then impl_MostPlaces.go l1 s c q else impl_MostPlaces.go l1 s b m
def impl_MostPlaces.f (k : Nat) (a0 : Int) (l1 : List Int) : Option (List Int × Int × Bool) := (impl_isSize.f a0).bind fun t => (if t = true then ((impl_isOrder.f k l1).bind fun t2 => (if t2 = true then ((impl_allOrders.f k a0).bind fun rows => impl_MostPlaces.go l1 rows [] (-1)) else (some (([] : List Int), 0, false)))) else (some (([] : List Int), 0, false)))
/-- Element i of rows of one's own, as a row of one's own. -/
theorem S_row {e q base n cap : Nat} {ok : Nat → Prop} {W : World} {ad : Addr} {xs : List (List Int)} (h : Kd.S (Kd.slice e (Kd.int .i64)) q W base ok (.slice (some ad) n cap) xs) (i : Nat) (h1 : i < n) :
 ∃ A c, Kd.R (Kd.int .i64) e W base (fun _ => True) (.slice A (xs.getD i []).length c) (xs.getD i []) ∧ W.cell? (ad.add i) = some (.slice A (xs.getD i []).length c) := by
 obtain ⟨c, hcl, hM, hcc⟩ := Kd.S_get h [] (i : Int) (by omega) (by omega)
 obtain ⟨v, rfl, hR⟩ := hM
 rw [show ((i : Int)).toNat = i by omega] at hR hcc
 obtain ⟨A, c', rfl⟩ := Kd.R_slice hR
 refine ⟨A, c', Kd.R_mono hR (fun _ _ => trivial), ?_⟩
 have := hcc 0 _ rfl
 simpa [Kd.slice] using this
set_option maxHeartbeats 8000000 in
set_option maxRecDepth 100000 in
theorem impl_MostPlaces.calls (k : Nat) (a0 : Int) (A1 : Option Addr) (c1 : Nat) (l1 : List Int) (r1 : List Int) (r2 : Int) (r3 : Bool) (w : World) (hr1 : Kd.C (Kd.int .i64) w A1 l1.length l1) (hc1 : l1.length ≤ c1) (h : impl_MostPlaces.f k a0 l1 = some (r1, r2, r3)) :
 Calls Try.prog 123 #[.int .i64 a0, .slice A1 l1.length c1] w fun e w' => ∃ v0_ : Value, e = .returned (.tuple #[v0_, .int .i64 r2, .bool r3]) ∧ Kd.R (Kd.int .i64) 3 w' w.heap.size (fun _ => True) v0_ r1 ∧ Below w.heap.size w w' := by
 unfold impl_MostPlaces.f at h
 obtain ⟨t, ht, h⟩ := Option.bind_eq_some_iff.1 h
 have HT := zk ht
 have HR1 := zk hr1
 have HC1 := zk hc1
 clear ht hr1 hc1
 cases t with
 | false =>
  rw [if_neg (by decide)] at h
  simp only [Option.some.injEq, Prod.mk.injEq] at h
  obtain ⟨rfl, rfl, rfl⟩ := h
  go_enter Try.func123, Try.ntmps123
  go_wp2_with (go_at_call 158; refine (impl_isSize.calls a0 false _ HT.out).mono ?_; rintro e_ w2 ⟨rfl, ⟨nd, rfl⟩⟩)
  go_ret3
  exact ⟨_, rfl, Kd.R_nil _ _ _ _ _, zd (Below.refl _ _) _⟩
 | true =>
  rw [if_pos rfl] at h
  obtain ⟨t2, ht2, h⟩ := Option.bind_eq_some_iff.1 h
  have HT2 := zk ht2
  clear ht2
  cases t2 with
  | false =>
   rw [if_neg (by decide)] at h
   simp only [Option.some.injEq, Prod.mk.injEq] at h
   obtain ⟨rfl, rfl, rfl⟩ := h
   go_enter Try.func123, Try.ntmps123
   go_wp2_with (first | (go_at_call 158; refine (impl_isSize.calls a0 true _ HT.out).mono ?_; rintro e_ w2 ⟨rfl, ⟨nd, rfl⟩⟩) | (go_at_call 146; refine (impl_isOrder.calls k A1 c1 l1 false _ (zu HR1.out _) HC1.out HT2.out).mono ?_; rintro e_ w3 ⟨rfl, ⟨nd2, rfl⟩⟩))
   go_ret3
   exact ⟨_, rfl, Kd.R_nil _ _ _ _ _, zd (Below.refl _ _) _⟩
  | true =>
   rw [if_pos rfl] at h
   obtain ⟨rows, ht3, h⟩ := Option.bind_eq_some_iff.1 h
   have HT3 := zk ht3
   have HG := zk h
   clear ht3 h
   go_enter Try.func123, Try.ntmps123
   go_wp2_with (first | (go_at_call 158; refine (impl_isSize.calls a0 true _ HT.out).mono ?_; rintro e_ w2 ⟨rfl, ⟨nd, rfl⟩⟩) | (go_at_call 146; refine (impl_isOrder.calls k A1 c1 l1 true _ (zu HR1.out _) HC1.out HT2.out).mono ?_; rintro e_ w3 ⟨rfl, ⟨nd2, rfl⟩⟩) | (go_at_call 175; refine (impl_allOrders.calls k a0 rows _ HT3.out).mono ?_; rintro e_ w4 ⟨v21, rfl, hs4, hb4⟩; have HB := zk (below_step (zd (Below.refl w.heap.size w) (nd + nd2)) hb4); have hs5 := Kd.S_lower hs4 (show w.heap.size ≤ (w.drewN (nd + nd2)).heap.size from Nat.le_refl _); obtain ⟨A21, c21, e21⟩ := Kd.S_slice hs5; subst e21; have HS := zk hs5; clear hs4 hb4 hs5))
   have hrl : rows.length ≤ 9223372036854775807 := (Kd.S_reads' HS.out).2.2.2.1
   go_loopg [23, 7, 8] rows.length (fun kq v23 v7 v8 wr => ∃ (pre suf : List (List Int)) (b : List Int) (m : Int), v23 = .int .i64 (pre.length : Int) ∧ v8 = .int .i64 m ∧ kq = suf.length ∧ Aside0 (rows = pre ++ suf) ∧ Aside0 (impl_MostPlaces.go l1 suf b m = some (r1, r2, r3)) ∧ Aside0 (Kd.R (Kd.int .i64) 3 wr w.heap.size (fun _ => True) v7 b) ∧ Aside0 (Below w4.heap.size w4 wr))
   case atStart => exact ⟨[], rows, [], -1, rfl, rfl, rfl, ⟨rfl⟩, HG, ⟨Kd.R_nil _ _ _ _ _⟩, ⟨Below.refl _ _⟩⟩
   case round =>
    clear HG
    obtain ⟨pre, suf, b, m, rfl, rfl, rfl, HL, HG, HRb, HBB⟩ := hrel
    cases suf with
    | nil =>
     have hl : rows.length = pre.length := by rw [HL.out]; simp
     have hg : ¬ ((pre.length : Int) < (rows.length : Int)) := by omega
     have hgb : decide ((pre.length : Int) < (rows.length : Int)) = false := decide_eq_false hg
     have e := HG.out
     simp only [impl_MostPlaces.go, Option.some.injEq, Prod.mk.injEq] at e
     obtain ⟨rfl, rfl, rfl⟩ := e
     clear hl hrl
     go_wp2
     go_ret3
     exact ⟨_, rfl, HRb.out, below_then HB.out HB.out.size HBB.out⟩
    | cons x t =>
     have hl : rows.length = pre.length + (t.length + 1) := by rw [HL.out]; simp
     have hg : (pre.length : Int) < (rows.length : Int) := by omega
     have hgb : decide ((pre.length : Int) < (rows.length : Int)) = true := decide_eq_true hg
     have hrd : rows.getD pre.length [] = x := by rw [HL.out]; simp
     have e := HG.out
     simp only [impl_MostPlaces.go] at e
     obtain ⟨q, hq, e⟩ := Option.bind_eq_some_iff.1 e
     have HQ := zk hq
     have hb1 : (pre.length : Int) ≤ 9223372036854775806 := by omega
     cases A21 with
     | none => exact absurd (Kd.S_reads' HS.out).2.2.2.2 (fun h => by obtain ⟨_, h, _⟩ := h (by omega); cases h)
     | some ad =>
      obtain ⟨A, c, hR, hx⟩ := S_row HS.out pre.length (by omega)
      rw [hrd] at hR hx
      replace hx := pw_cell_below HBB.out hx
      have HRx := zk (Kd.R_below hR HBB.out)
      have HCL := zk (Kd.C_below HR1.out (below_then HB.out HB.out.size HBB.out))
      clear hq hl hrd hR hrl
      by_cases hqm : q > m
      · rw [if_pos hqm] at e
        have hqb : decide (q > m) = true := decide_eq_true hqm
        have HE := zk e
        clear e
        go_wp2_with (go_at_call 234; refine (impl_countPlaces.calls A c x A1 c1 l1 q _ (Kd.R_reads' HRx.out).2.2 (Kd.R_reads' HRx.out).2.1 HCL.out HC1.out HQ.out).mono ?_; rintro e_ w6 ⟨rfl, hb6⟩; have HX := zk hb6; clear hb6)
        go_roundg t.length
        case measure => simp
        case rel => exact ⟨pre ++ [x], t, x, q, by simp [wrap64], rfl, rfl, ⟨by rw [HL.out]; simp⟩, HE, ⟨Kd.R_below HRx.out HX.out⟩, ⟨below_step HBB.out HX.out⟩⟩
      · rw [if_neg hqm] at e
        have hqb : decide (q > m) = false := decide_eq_false hqm
        have HE := zk e
        clear e
        go_wp2_with (go_at_call 234; refine (impl_countPlaces.calls A c x A1 c1 l1 q _ (Kd.R_reads' HRx.out).2.2 (Kd.R_reads' HRx.out).2.1 HCL.out HC1.out HQ.out).mono ?_; rintro e_ w6 ⟨rfl, hb6⟩; have HX := zk hb6; clear hb6)
        go_roundg t.length
        case measure => simp
        case rel => exact ⟨pre ++ [x], t, b, m, by simp [wrap64], rfl, rfl, ⟨by rw [HL.out]; simp⟩, HE, ⟨Kd.R_below HRb.out HX.out⟩, ⟨below_step HBB.out HX.out⟩⟩
end

/-! ### spec_l2Sorted: function 171 -/
def spec_l2Sorted.l0 : Nat → Int → List Int → Int → Option (List Int)
 | 0, _, _, _ => none
 | k + 1, x0, x3, x4 => if x4 ≤ x0 then (if x3.length < 17592186044416 then (spec_l2Sorted.l0 k x0 (x3 ++ [x4]) (wrap64 (x4 + 1))) else (none)) else (some x3)
def spec_l2Sorted.f (k : Nat) (a0 : Int) : Option (List Int) := spec_l2Sorted.l0 k a0 (([] : List Int)) 1
theorem spec_l2Sorted.mono_l : ∀ k, (∀ y0 y1 y2, LeO (spec_l2Sorted.l0 k y0 y1 y2) (spec_l2Sorted.l0 (k + 1) y0 y1 y2))
 | 0 => fun _ _ _ r h => by simp [spec_l2Sorted.l0] at h
 | k + 1 => by
  have ih0 := spec_l2Sorted.mono_l k
  · intro y0 y1 y2
    unfold spec_l2Sorted.l0
    repeat' first
    | (with_reducible exact ih0 _ _ _)
    | (with_reducible exact LeO.refl _)
    | (with_reducible exact LeO.none _)
    | (with_reducible refine LeO.ite ?_ ?_)
    | (with_reducible refine LeO.bind ?_ (fun _ => ?_))
    | exact ih0 _ _ _
    | exact LeO.none _
    | refine LeO.ite ?_ ?_
    | refine LeO.bind ?_ (fun _ => ?_)
theorem spec_l2Sorted.mono : ∀ a0 k, LeO (spec_l2Sorted.f k a0) (spec_l2Sorted.f (k + 1) a0) := by
 intro a0 k
 have ih0 := spec_l2Sorted.mono_l k
 unfold spec_l2Sorted.f
 repeat' first
  | (with_reducible exact ih0 _ _ _)
  | (with_reducible exact LeO.refl _)
  | (with_reducible exact LeO.none _)
  | (with_reducible refine LeO.ite ?_ ?_)
  | (with_reducible refine LeO.bind ?_ (fun _ => ?_))
  | exact ih0 _ _ _
  | exact LeO.none _
  | refine LeO.ite ?_ ?_
  | refine LeO.bind ?_ (fun _ => ?_)
set_option maxHeartbeats 8000000 in
set_option maxRecDepth 100000 in
theorem spec_l2Sorted.calls (k : Nat) (a0 : Int) (r : List Int) (w : World) (h : spec_l2Sorted.f k a0 = some r) :
 Calls Try.prog 171 #[.int .i64 a0] w fun e w' => ∃ v0_ : Value, e = .returned (v0_) ∧ Kd.R (Kd.int .i64) 3 w' w.heap.size (fun _ => True) v0_ r ∧ Below w.heap.size w w' := by
 have HB := zk (Below.refl w.heap.size w)
 have H : (spec_l2Sorted.l0 k a0 (([] : List Int)) 1) = some r := h
 clear h
 obtain ⟨y572, hy572⟩ : ∃ y_ : List Int, y_ = (([] : List Int)) := ⟨_, rfl⟩
 replace H : (spec_l2Sorted.l0 k a0 y572 1) = some r := by first | (rw [hy572]; with_reducible exact H) | (have H2_ := (Option.bind_some _ _).symm.trans H; rw [hy572]; with_reducible exact H2_) | (have H2_ := (Option.bind_some _ _).symm.trans H; with_reducible exact H2_) | with_reducible exact H | (rw [hy572]; exact H) | exact H
 have Ny572 := zk hy572
 clear hy572
 have H' := zk H
 clear H
 go_enter Try.func171, Try.ntmps171
 go_wp2_with (first | ((with_reducible refine gate_dst (N := 5) rfl ?_); refine zL 5 3 [] (Below.refl _ _) (Nat.le_refl _) ?_; intro v573 w2 ho3 hb hg_ hnew_; clear hg_ hnew_; (first | rw [← Ny572.out] at ho3 | (simp only [Int.reduceToNat] at ho3; rw [← Ny572.out] at ho3)); have HO574 := zk (Kd.R_lower ho3 (below_size (zB HB))); replace HB := zF HB hb; clear hb ho3))
 go_loopg [3, 4] k (fun kq v3 v4 w' => ∃ (x3_1 : List Int) (x4_1 : Int), v4 = .int .i64 x4_1 ∧ Aside0 (spec_l2Sorted.l0 kq a0 x3_1 x4_1 = some r) ∧ Aside0 (kq ≤ k) ∧ Aside0 (Kd.R (Kd.int .i64) 3 w' w.heap.size (fun _ => True) v3 x3_1) ∧ Aside0 (Below w.heap.size w w'))
 case atStart => exact ⟨(y572), (1), (by first | rfl | (simp; done) | (simp [*]; done)), H', ⟨Nat.le_refl _⟩, ⟨by (with_reducible repeat (first | apply zs | apply zr | apply zt)); exact HO574.out⟩, ⟨by repeat (first | exact HB.out | apply za | apply zd | apply ze)⟩⟩
 case round =>
  clear H'
  try clear c1
  try clear p2
  obtain ⟨x3_1, x4_1, rfl, HA, HK1, HO_3, HB⟩ := hrel
  cases gk with
  | zero => exact absurd HA.out (by simp [spec_l2Sorted.l0])
  | succ k1 =>
   have H := HA.out
   clear HA
   simp only [spec_l2Sorted.l0] at H
   by_cases c4 : x4_1 ≤ a0
   rotate_left
   · rw [if_neg c4] at H
     have c4b0 := decide_eq_false c4
     clear c4
     obtain rfl := Option.some.inj H
     go_wp2
     go_ret
     exact ⟨_, by first | rfl | (simp [errW_none, errW_some] <;> rfl) | (simp [*, errW_none, errW_some] <;> rfl), by (with_reducible repeat (first | apply zs | apply zr | apply zt)); exact HO_3.out, by repeat (first | exact HB.out | apply za | apply zd | apply ze)⟩
   rw [if_pos c4] at H
   have c4b0 := decide_eq_true c4
   clear c4
   by_cases c5 : x3_1.length < 17592186044416
   rotate_left
   · rw [if_neg c5] at H
     exact absurd H (by simp)
   rw [if_pos c5] at H
   have LMc5 := zk c5
   clear c5
   obtain ⟨y575, hy575⟩ : ∃ y_ : List Int, y_ = (x3_1 ++ [x4_1]) := ⟨_, rfl⟩
   replace H : (spec_l2Sorted.l0 k1 a0 y575 (wrap64 (x4_1 + 1))) = some r := by first | (rw [hy575]; with_reducible exact H) | (have H2_ := (Option.bind_some _ _).symm.trans H; rw [hy575]; with_reducible exact H2_) | (have H2_ := (Option.bind_some _ _).symm.trans H; with_reducible exact H2_) | with_reducible exact H | (rw [hy575]; exact H) | exact H
   have Ny575 := zk hy575
   clear hy575
   have H' := zk H
   clear H
   go_wp2_with (first | ((with_reducible refine gate_builtin (b := .append) (xs := #[.tmp 11, .tmp 13]) rfl ?_); at_builtin; refine Kd.R_append (Kd.int .i64) (w0 := w) w.heap.size rfl (.tmp 11) (.tmp 13) 22 3 (.int .i64 0) 8 rfl Try.underlying22 info3 rfl (by decide) (by omega) u3 x3_1 x4_1 [.int .i64 x4_1] (fun _ => True) (fun _ => False) rfl rfl ?aP (fun _ hk => hk.elim) ?aF ?aO ?aB ?aS ?aL ?_; (case aP => exact rfl); (case aB => exact (zB HB)); (case aF => exact (fun _ _ => trivial)); (case aO => exact (zR HO_3)); (case aS => exact (below_size (zB HB))); (case aL => have := LMc5.out; omega); intro v576 w6 ho hb hg hat; rw [← Ny575.out] at ho; have HO577 := zk (ho); replace HB := zk (hb); clear HO_3; clear ho hb hg hat))
   go_roundg k1
   case measure => have := HK1.out; omega
   case rel => exact ⟨(y575), (wrap64 (x4_1 + 1)), (by first | rfl | (simp; done) | (simp [*]; done)), H', ⟨by have := HK1.out; omega⟩, ⟨by (with_reducible repeat (first | apply zs | apply zr | apply zt)); exact HO577.out⟩, ⟨by repeat (first | exact HB.out | apply za | apply zd | apply ze)⟩⟩

end Go.Proofs.Ytlkddcabjcejdaa.MFnAvoiding
