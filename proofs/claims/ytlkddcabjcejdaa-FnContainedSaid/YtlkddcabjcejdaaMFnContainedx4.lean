/- Functions that FnContained comes to, a walk for each: by wip/tools/mk.py and post.py. No condition. -/
import Derived.Test.YtlkddcabjcejdaaMFnContainedx0
import Derived.Test.YtlkddcabjcejdaaMFnContainedx1
import Derived.Test.YtlkddcabjcejdaaMFnContainedx2
import Derived.Test.YtlkddcabjcejdaaMFnContainedx3
namespace Go.Proofs.Ytlkddcabjcejdaa.MFnContained
open Go.RowKit Go.Proofs.YtlkddcabjcejdaaW.PrintWords Go.Proofs.YtlkddcabjcejdaaW.PrintLast Go.Proofs.YtlkddcabjcejdaaW.PrintMore
attribute [local go_sem] max2_int min2_int max_two min_two max_three min_three max_four min_four
set_option linter.unusedVariables false
set_option linter.unusedSimpArgs false

/-! ### spec_PatternsIn: function 29 -/
mutual
def spec_PatternsIn.j0 : Nat → List Int → Int → List (List Int) → Bool → Option ((List (List Int)) × Bool)
 | 0, _, _, _, _ => none
 | k + 1, x0, x1, x6, x17 => if x17 = true then (some (x6, false)) else ((spec_l3Choices.f k (([] : List Int)) (x0.length : Int) x1).bind fun t220 => (spec_PatternsIn.l0 k x0 x6 t220 0))
def spec_PatternsIn.l0 : Nat → List Int → List (List Int) → List (List Int) → Int → Option ((List (List Int)) × Bool)
 | 0, _, _, _, _ => none
 | k + 1, x0, x6, x7, x8 => if x8 < (x7.length : Int) then (if 0 ≤ x8 then ((spec_l3At.f k x0 (rd_L1 x7 x8)).bind fun t224 => ((spec_l3Shape.f k t224).bind fun t227 => ((spec_l2PutOrder.f k x6 t227).bind fun t230 => (spec_PatternsIn.l0 k x0 t230 x7 (wrap64 (x8 + 1)))))) else (none)) else (some (x6, true))
end
def spec_PatternsIn.f (k : Nat) (l0 : List Int) (a1 : Int) : Option ((List (List Int)) × Bool) := (some (([] : List (List Int)) : List (List Int))).bind fun y212 => ((spec_l2Order.f k l0).bind fun t215 => (if t215 = true then ((spec_l1In.f a1 1 7).bind fun t216 => (spec_PatternsIn.j0 k l0 a1 y212 (!t216))) else (spec_PatternsIn.j0 k l0 a1 y212 true)))
set_option maxHeartbeats 8000000 in
set_option maxRecDepth 100000 in
theorem spec_PatternsIn.calls (k : Nat) (A0 : Option Addr) (c0 : Nat) (l0 : List Int) (a1 : Int) (r1 : List (List Int)) (r2 : Bool) (w : World) (hr0 : Kd.C (Kd.int .i64) w A0 l0.length l0) (hc0 : l0.length ≤ c0) (h : spec_PatternsIn.f k l0 a1 = some (r1, r2)) :
 Calls Try.prog 29 #[.slice A0 l0.length c0, .int .i64 a1] w fun e w' => ∃ v0_ : Value, e = .returned (.tuple #[v0_, .bool r2]) ∧ Kd.V (Kd.slice 3 (Kd.int .i64)) 22 w' w.heap.size (fun k_ => (w.heap.size ≤ k_)) v0_ r1 ∧ Below w.heap.size w w' := by
 have HR0 := zk hr0
 have HC0 := zk hc0
 clear hr0 hc0
 have HB := zk (Below.refl w.heap.size w)
 have H := h
 unfold spec_PatternsIn.f at H
 clear h
 obtain ⟨y212, hy212⟩ : ∃ y_ : List (List Int), y_ = (([] : List (List Int))) := ⟨_, rfl⟩
 replace H : ((spec_l2Order.f k l0).bind fun t215 => (if t215 = true then ((spec_l1In.f a1 1 7).bind fun t216 => (spec_PatternsIn.j0 k l0 a1 y212 (!t216))) else (spec_PatternsIn.j0 k l0 a1 y212 true))) = some (r1, r2) := by first | (rw [hy212]; with_reducible exact H) | (have H2_ := (Option.bind_some _ _).symm.trans H; rw [hy212]; with_reducible exact H2_) | (have H2_ := (Option.bind_some _ _).symm.trans H; with_reducible exact H2_) | with_reducible exact H | (rw [hy212]; exact H) | exact H
 have Ny212 := zk hy212
 clear hy212
 have HC3 := zk H
 clear H
 go_enter Try.func29, Try.ntmps29
 go_upto_region 2 with (first | ((with_reducible refine gate_dst (N := 9) rfl ?_); refine Kd.N_lit (Kd.slice 3 (Kd.int .i64)) _ 22 ?hg (N' := 9) ?hd (xs := ([] : List (List Int))) (inner := []) (ok := (fun k_ => (w.heap.size ≤ k_))) (okp := (fun k_ => (w.heap.size ≤ k_))) ?hr ?hp (fun _ hk => hk) ((show ∀ k_, w.heap.size ≤ k_ → (fun k_ => (w.heap.size ≤ k_)) k_ from fun k_ hk => (Nat.le_trans (below_size (zB HB)) hk)) _ (Nat.le_refl _)) (Below.refl _ _) (Nat.le_refl _) (by simp) ?_; (case hd => rfl); (case hg => rfl); (case hr => first | (go_simp; done) | (go_simp; rfl)); (case hp => exact (Reps.none _ _)); intro v213 w4 ho5 hb hg_ hnew_; clear hg_ hnew_; (first | rw [← Ny212.out] at ho5 | (simp only [Int.reduceToNat] at ho5; rw [← Ny212.out] at ho5)); have HO214 := zk (Kd.N_lower ho5 (below_size (zB HB))); replace HB := zF HB hb; clear hb ho5))
 (try simp only [Act.put, List.setIfInBounds_toArray, List.set_cons_zero, List.set_cons_succ])
 go_cut [17] (fun v17 wc => ∃ (kq : Nat) (x17_2 : Bool), v17 = .bool x17_2 ∧ Aside0 (spec_PatternsIn.j0 kq l0 a1 y212 x17_2 = some (r1, r2)) ∧ Aside0 (kq ≤ k) ∧ Aside0 (Kd.N (Kd.slice 3 (Kd.int .i64)) 22 wc w.heap.size (fun k_ => (w.heap.size ≤ k_)) v213 y212) ∧ Aside0 (Below w.heap.size w wc))
 case first =>
  have H := HC3.out
  clear HC3
  replace H := Option.bind_eq_some_iff.mp H
  obtain ⟨t215, A60, H⟩ := H
  try dsimp only at H
  have A6 := zk A60
  clear A60
  by_cases c7 : t215 = true
  rotate_left
  · replace c7 := Bool.eq_false_iff.mpr c7
    subst c7
    have H1 : (spec_PatternsIn.j0 k l0 a1 y212 true) = some (r1, r2) := by rw [if_neg (show ¬ (false = true) by decide)] at H; exact H
    clear H
    have H := H1
    clear H1
    have H' := zk H
    clear H
    go_wp2_with (first | ((with_reducible refine gate_callee (f := 142) rfl ?_); refine zG (some 11) Try.func142 #[.slice A0 l0.length c0] ?_; (with_reducible refine (spec_l2Order.calls k _ _ l0 false _ ?side1 ?side2 A6.out).mono ?_); (case side1 => exact zC (Kd.C_below HR0.out HB.out)); (case side2 => exact HC0.out); rintro e w' ⟨rfl, ⟨nd, rfl⟩⟩; refine ⟨_, rfl, ?_⟩))
    go_meet
    case rel => exact ⟨_, (true), (by first | rfl | (simp; done) | (simp [*]; done)), H', ⟨by first | omega | exact Nat.le_refl _⟩, ⟨by (with_reducible repeat (first | apply Kd.N_alloc | apply Kd.N_drewN | apply Kd.N_drew)); exact HO214.out⟩, ⟨by repeat (first | exact HB.out | apply za | apply zd | apply ze)⟩⟩
  subst c7
  have H1 : ((spec_l1In.f a1 1 7).bind fun t216 => (spec_PatternsIn.j0 k l0 a1 y212 (!t216))) = some (r1, r2) := by rw [if_pos rfl] at H; exact H
  clear H
  have H := H1
  clear H1
  replace H := Option.bind_eq_some_iff.mp H
  obtain ⟨t216, A80, H⟩ := H
  try dsimp only at H
  have A8 := zk A80
  clear A80
  have H' := zk H
  clear H
  go_wp2_with (first | ((with_reducible refine gate_callee (f := 142) rfl ?_); refine zG (some 11) Try.func142 #[.slice A0 l0.length c0] ?_; (with_reducible refine (spec_l2Order.calls k _ _ l0 true _ ?side1 ?side2 A6.out).mono ?_); (case side1 => exact zC (Kd.C_below HR0.out HB.out)); (case side2 => exact HC0.out); rintro e w' ⟨rfl, ⟨nd, rfl⟩⟩; refine ⟨_, rfl, ?_⟩) | (go_at_call 154; (with_reducible refine (spec_l1In.calls a1 1 7 t216 _ A8.out).mono ?_); rintro e w' ⟨rfl, ⟨nd, rfl⟩⟩))
  go_meet
  case rel => exact ⟨_, (!t216), (by first | rfl | (simp; done) | (simp [*]; done)), H', ⟨by first | omega | exact Nat.le_refl _⟩, ⟨by (with_reducible repeat (first | apply Kd.N_alloc | apply Kd.N_drewN | apply Kd.N_drew)); exact HO214.out⟩, ⟨by repeat (first | exact HB.out | apply za | apply zd | apply ze)⟩⟩
 case rest =>
  clear HC3
  try clear c1
  try clear c2
  try clear p2
  try clear c7
  obtain ⟨kq, x17_2, rfl, HA, HJ2, HO_6, HB⟩ := hcut
  cases kq with
  | zero => exact absurd HA.out (by simp [spec_PatternsIn.j0])
  | succ kj2 =>
   have H := HA.out
   clear HA
   simp only [spec_PatternsIn.j0] at H
   by_cases c9 : x17_2 = true
   rotate_left
   · replace c9 := Bool.eq_false_iff.mpr c9
     subst c9
     have H1 : ((spec_l3Choices.f kj2 (([] : List Int)) (l0.length : Int) a1).bind fun t220 => (spec_PatternsIn.l0 kj2 l0 y212 t220 0)) = some (r1, r2) := by rw [if_neg (show ¬ (false = true) by decide)] at H; exact H
     clear H
     have H := H1
     clear H1
     obtain ⟨y217, hy217⟩ : ∃ y_ : List Int, y_ = (([] : List Int)) := ⟨_, rfl⟩
     replace H : ((spec_l3Choices.f kj2 y217 (l0.length : Int) a1).bind fun t220 => (spec_PatternsIn.l0 kj2 l0 y212 t220 0)) = some (r1, r2) := by first | (rw [hy217]; with_reducible exact H) | (have H2_ := (Option.bind_some _ _).symm.trans H; rw [hy217]; with_reducible exact H2_) | (have H2_ := (Option.bind_some _ _).symm.trans H; with_reducible exact H2_) | with_reducible exact H | (rw [hy217]; exact H) | exact H
     have Ny217 := zk hy217
     clear hy217
     replace H := Option.bind_eq_some_iff.mp H
     obtain ⟨t220, A100, H⟩ := H
     try dsimp only at H
     have A10 := zk A100
     clear A100
     have H' := zk H
     clear H
     go_wp2_with (first | ((with_reducible refine gate_dst (N := 19) rfl ?_); refine zL 19 3 [] (Below.refl _ _) (Nat.le_refl _) ?_; intro v218 w11 ho12 hb hg_ hnew_; clear hg_ hnew_; (first | rw [← Ny217.out] at ho12 | (simp only [Int.reduceToNat] at ho12; rw [← Ny217.out] at ho12)); have HO219 := zk (Kd.R_lower (Kd.R_newM (M := fun k_ => (w.heap.size ≤ k_)) ho12 (below_size (zB HB)) (fun k_ h_ => h_)) (below_size (zB HB))); replace HO_6 := zEN HO_6 ho12 hb; replace HB := zF HB hb; clear hb ho12; obtain ⟨Ao13, co13, eo13⟩ := Kd.R_slice HO219.out; subst eo13) | ((with_reducible refine gate_callee (f := 155) rfl ?_); refine zG (some 23) Try.func155 #[.slice Ao13 y217.length co13, .int .i64 (l0.length : Int), .int .i64 a1] ?_; (with_reducible refine (spec_l3Choices.calls kj2 (fun k_ => some k_ = (.slice Ao13 y217.length co13 : Value).ownBlock) _ _ y217 (l0.length : Int) a1 t220 _ ?side1 A10.out).mono ?_); (case side1 => exact Kd.R_V (Kd.R_tight rfl (Kd.R_apart' (HO219.out) (Kd.N_typed HO_6.out) (by decide)))); rintro e w14 ⟨v221, rfl, ho0, hb⟩; refine ⟨_, rfl, ?_⟩; have HO222 := zk (Kd.N_lower (Kd.N_mono (ok' := fun k_ => (w.heap.size ≤ k_) ∧ some k_ ≠ (v213 : Value).ownBlock) ho0 (fun k_ hk_ => ⟨Or.elim hk_ (fun hs_ => ((Kd.R_apart' (HO219.out) (Kd.N_typed HO_6.out) (by decide)).1 k_ hs_.symm).1.1) (fun hn_ => (Nat.le_trans (below_size (zB HB)) hn_)), Or.elim hk_ (fun hs_ => ((Kd.R_apart' (HO219.out) (Kd.N_typed HO_6.out) (by decide)).1 k_ hs_.symm).2) (fun hn_ => (Kd.fresh' (Kd.N_lt (zN HO_6)) k_ hn_))⟩)) (below_size (zB HB))); replace HO_6 := zk (Kd.N_elder' (zN HO_6) (by first | exact Kd.N_base ho0 | exact Kd.S_base ho0 | exact Kd.R_base ho0) hb); replace HO219 := zk (Kd.R_below (zR HO219) hb); replace HB := zF HB hb; (try clear hb ho0)))
     go_loopg [6, 8] kj2 (fun kq v6 v8 w' => ∃ (x6_2 : List (List Int)) (x8_2 : Int), v8 = .int .i64 x8_2 ∧ Aside0 (spec_PatternsIn.l0 kq l0 x6_2 t220 x8_2 = some (r1, r2)) ∧ Aside0 (kq ≤ kj2) ∧ Aside0 (Kd.V (Kd.slice 3 (Kd.int .i64)) 22 w' w.heap.size (fun k_ => (w.heap.size ≤ k_) ∧ some k_ ≠ (v221 : Value).ownBlock) v6 x6_2) ∧ Aside0 (Kd.N (Kd.slice 3 (Kd.int .i64)) 22 w' w.heap.size (fun k_ => (w.heap.size ≤ k_)) v221 t220) ∧ Aside0 (Below w.heap.size w w'))
     case atStart => exact ⟨(y212), (0), (by first | rfl | (simp; done) | (simp [*]; done)), H', ⟨Nat.le_refl _⟩, ⟨Kd.N_V (by (with_reducible repeat (first | apply Kd.N_alloc | apply Kd.N_drewN | apply Kd.N_drew)); exact Kd.N_mono HO_6.out (fun _ hk => ⟨hk.1.1, hk.2⟩))⟩, ⟨by (with_reducible repeat (first | apply Kd.N_alloc | apply Kd.N_drewN | apply Kd.N_drew)); exact Kd.N_mono HO222.out (fun _ hk => hk.1)⟩, ⟨by repeat (first | exact HB.out | apply za | apply zd | apply ze)⟩⟩
     case round =>
      clear H'
      try clear c1
      try clear c2
      try clear p2
      try clear c7
      try clear c9
      try clear c14
      try clear p2
      obtain ⟨x6_2, x8_2, rfl, HA, HK2, HO_6, HO_7, HB⟩ := hrel
      cases gk with
      | zero => exact absurd HA.out (by simp [spec_PatternsIn.l0])
      | succ k2 =>
       have H := HA.out
       clear HA
       simp only [spec_PatternsIn.l0] at H
       by_cases c15 : x8_2 < (t220.length : Int)
       rotate_left
       · rw [if_neg c15] at H
         have c15b0 := decide_eq_false c15
         clear c15
         simp only [Option.some.injEq, Prod.mk.injEq] at H
         obtain ⟨rfl, rfl⟩ := H
         obtain ⟨Ao27, co27, eo27⟩ := Kd.N_slice HO_7.out
         subst eo27
         go_wp2
         go_ret2
         exact ⟨_, by first | rfl | (simp [errW_none, errW_some] <;> rfl) | (simp [*, errW_none, errW_some] <;> rfl), by (with_reducible repeat (first | apply Kd.V_alloc | apply Kd.V_drewN | apply Kd.V_drew)); exact Kd.V_mono HO_6.out (fun _ hk => hk.1), by repeat (first | exact HB.out | apply za | apply zd | apply ze)⟩
       rw [if_pos c15] at H
       have c15b0 := decide_eq_true c15
       clear c15
       by_cases c16 : 0 ≤ x8_2
       rotate_left
       · rw [if_neg c16] at H
         exact absurd H (by simp)
       rw [if_pos c16] at H
       have c16b0 := decide_eq_true c16
       clear c16
       replace H := Option.bind_eq_some_iff.mp H
       obtain ⟨t224, A170, H⟩ := H
       try dsimp only at H
       have A17 := zk A170
       clear A170
       replace H := Option.bind_eq_some_iff.mp H
       obtain ⟨t227, A180, H⟩ := H
       try dsimp only at H
       have A18 := zk A180
       clear A180
       replace H := Option.bind_eq_some_iff.mp H
       obtain ⟨t230, A190, H⟩ := H
       try dsimp only at H
       have A19 := zk A190
       clear A190
       have H' := zk H
       clear H
       obtain ⟨Ao20, co20, eo20⟩ := Kd.N_slice HO_7.out
       subst eo20
       have p223 : 0 ≤ (x8_2 : Int) := zo (by assumption)
       have q223 : x8_2 < (t220.length : Int) := zo (by assumption)
       obtain ⟨ad223, A223_0, c223_0, e223, hx223_0, hl223_0, hi223_0⟩ := at_L1 (Kd.N_reads' HO_7.out).2.2 x8_2 p223 q223
       cases e223
       obtain ⟨ce223, hce223, hMe223, hcc223⟩ := Kd.N_get HO_7.out [] x8_2 p223 (by first | exact q223 | exact zo (by assumption) | (have e_ := (Kd.N_reads' HO_7.out).1; omega))
       obtain ⟨ua223_0, uc223_0, rfl, ul223_0, ge223_0⟩ := Kd.FK_slice_open hMe223
       have hv223_0 := hcc223 0 _ rfl
       rw [Nat.add_zero, show ((Kd.slice 3 (Kd.int .i64))).sz = 1 from rfl, Nat.mul_one] at hv223_0
       replace hv223_0 := Option.some.inj (hv223_0.symm.trans hx223_0)
       injection hv223_0 with hva_ hvn_ hvc_
       rw [hva_] at ge223_0
       rw [hvc_] at ul223_0
       have HL223_0 := zk (show Kd.V (Kd.int .i64) 3 _ w.heap.size _ _ (rd_L1 t220 x8_2) from Kd.V_mk ul223_0 ge223_0)
       clear hva_ hvn_ hvc_ ge223_0 ul223_0
       clear hcc223 hce223
       have HR223_0 := zk hi223_0
       have HC223_0 := zk hl223_0
       clear hi223_0 hl223_0
       replace p223 := eq_true p223
       replace q223 := eq_true q223
       go_wp2_with (first | ((with_reducible refine gate_callee (f := 157) rfl ?_); refine zG (some 36) Try.func157 #[.slice A0 l0.length c0, .slice A223_0 (rd_L1 t220 x8_2).length c223_0] ?_; (with_reducible refine (spec_l3At.calls k2 _ _ l0 _ _ (rd_L1 t220 x8_2) t224 _ ?side1 ?side2 ?side3 ?side4 A17.out).mono ?_); (case side1 => exact zC (Kd.C_below HR0.out HB.out)); (case side2 => exact HC0.out); (case side3 => exact zC HR223_0.out); (case side4 => exact HC223_0.out); rintro e w21 ⟨v225, rfl, ho0, hb⟩; refine ⟨_, rfl, ?_⟩; have HO226 := zk (Kd.R_lower (Kd.R_newM (M := fun k_ => (w.heap.size ≤ k_)) ho0 (below_size (zB HB)) (fun k_ h_ => h_)) (below_size (zB HB))); replace HO_6 := zk (Kd.V_elder' (zV HO_6) (Kd.R_base ho0) hb); replace HO_7 := zEN HO_7 ho0 hb; replace HL223_0 := zk (Kd.V_elder' (zV HL223_0) (Kd.R_base ho0) hb); replace HR223_0 := zk (Kd.C_below (zC HR223_0.out) hb); replace HB := zF HB hb; (try clear hb ho0); obtain ⟨Ao22, co22, eo22⟩ := Kd.R_slice HO226.out; subst eo22) | ((with_reducible refine gate_callee (f := 156) rfl ?_); refine zG (some 37) Try.func156 #[.slice Ao22 t224.length co22] ?_; (with_reducible refine (spec_l3Shape.calls k2 _ _ t224 t227 _ ?side1 ?side2 A18.out).mono ?_); (case side1 => exact zC (Kd.R_reads' HO226.out).2.2); (case side2 => exact (Kd.R_reads' HO226.out).2.1); rintro e w23 ⟨v228, rfl, ho0, hb⟩; refine ⟨_, rfl, ?_⟩; have HO229 := zk (Kd.R_lower (Kd.R_new' (Kd.R_newM (M := fun k_ => (w.heap.size ≤ k_)) ho0 (below_size (zB HB)) (fun k_ h_ => h_)) (Kd.R_lt (zR HO226))) (below_size (zB HB))); replace HO_6 := zk (Kd.V_elder' (zV HO_6) (Kd.R_base ho0) hb); replace HO_7 := zEN HO_7 ho0 hb; replace HL223_0 := zk (Kd.V_elder' (zV HL223_0) (Kd.R_base ho0) hb); replace HO226 := zE HO226 ho0 hb; replace HR223_0 := zk (Kd.C_below (zC HR223_0.out) hb); replace HB := zF HB hb; (try clear hb ho0); obtain ⟨Ao24, co24, eo24⟩ := Kd.V_slice HO_6.out; subst eo24; obtain ⟨Ao25, co25, eo25⟩ := Kd.R_slice HO229.out; subst eo25) | ((with_reducible refine gate_callee (f := 151) rfl ?_); refine zG (some 38) Try.func151 #[.slice Ao24 x6_2.length co24, .slice Ao25 t227.length co25] ?_; (with_reducible refine (spec_l2PutOrder.calls k2 (fun k_ => ((((w.heap.size ≤ k_) ∧ some k_ ≠ (.slice (some ad223) t220.length co20 : Value).ownBlock) ∧ some k_ ≠ (.slice Ao22 t224.length co22 : Value).ownBlock) ∧ some k_ ≠ (.slice Ao25 t227.length co25 : Value).ownBlock)) _ _ x6_2 (fun k_ => some k_ = (.slice Ao25 t227.length co25 : Value).ownBlock) _ _ t227 t230 _ ?side1 ?side2 A19.out).mono ?_); (case side1 => exact HO_6.out); (case side2 => exact Kd.R_V (Kd.R_tight rfl (Kd.R_apart' (HO229.out) (Kd.N_typed HO_7.out) (by decide)))); rintro e w26 ⟨v231, rfl, ho0, hb⟩; refine ⟨_, rfl, ?_⟩; have HO232 := zk (Kd.V_lower (Kd.V_mono (ok' := fun k_ => (w.heap.size ≤ k_) ∧ some k_ ≠ (.slice (some ad223) t220.length co20 : Value).ownBlock ∧ some k_ ≠ (.slice Ao22 t224.length co22 : Value).ownBlock) ho0 (fun k_ hk_ => ⟨Or.elim hk_ (fun hs_ => Or.elim hs_ (fun hs_ => hs_.1.1.1) (fun hs_ => ((Kd.R_apart' (HO229.out) (Kd.N_typed HO_7.out) (by decide)).1 k_ hs_.symm).1.1.1)) (fun hn_ => (Nat.le_trans (below_size (zB HB)) hn_)), Or.elim hk_ (fun hs_ => Or.elim hs_ (fun hs_ => hs_.1.1.2) (fun hs_ => ((Kd.R_apart' (HO229.out) (Kd.N_typed HO_7.out) (by decide)).1 k_ hs_.symm).2)) (fun hn_ => (Kd.fresh' (Kd.N_lt (zN HO_7)) k_ hn_)), Or.elim hk_ (fun hs_ => Or.elim hs_ (fun hs_ => hs_.1.2) (fun hs_ => ((Kd.R_apart' (HO229.out) (Kd.N_typed HO_7.out) (by decide)).1 k_ hs_.symm).1.2)) (fun hn_ => (Kd.fresh' (Kd.R_lt (zR HO226)) k_ hn_))⟩)) (below_size (zB HB))); replace HO_6 := zk (Kd.V_below (zV HO_6) hb); replace HO_7 := zk (Kd.N_below (zN HO_7) hb); replace HL223_0 := zk (Kd.V_below (zV HL223_0) hb); replace HO226 := zk (Kd.R_below (zR HO226) hb); replace HO229 := zk (Kd.R_below (zR HO229) hb); replace HR223_0 := zk (Kd.C_below (zC HR223_0.out) hb); replace HB := zF HB hb; (try clear hb ho0)))
       go_roundg k2
       case measure => have := HJ2.out; have := HK2.out; omega
       case rel => exact ⟨(t230), (wrap64 (x8_2 + 1)), (by first | rfl | (simp; done) | (simp [*]; done)), H', ⟨by have := HJ2.out; have := HK2.out; omega⟩, ⟨by (with_reducible repeat (first | apply Kd.V_alloc | apply Kd.V_drewN | apply Kd.V_drew)); exact Kd.V_mono HO232.out (fun _ hk => ⟨hk.1, hk.2.1⟩)⟩, ⟨by (with_reducible repeat (first | apply Kd.N_alloc | apply Kd.N_drewN | apply Kd.N_drew)); exact Kd.N_mono HO_7.out (fun _ hk => hk.1.1)⟩, ⟨by repeat (first | exact HB.out | apply za | apply zd | apply ze)⟩⟩
   subst c9
   have H1 : (some (y212, false)) = some (r1, r2) := by rw [if_pos rfl] at H; exact H
   clear H
   have H := H1
   clear H1
   simp only [Option.some.injEq, Prod.mk.injEq] at H
   obtain ⟨rfl, rfl⟩ := H
   go_wp2
   go_ret2
   exact ⟨_, by first | rfl | (simp [errW_none, errW_some] <;> rfl) | (simp [*, errW_none, errW_some] <;> rfl), Kd.N_V (zN HO_6), by repeat (first | exact HB.out | apply za | apply zd | apply ze)⟩

/-! ### slices_Index_int_int: function 184 -/
def slices_Index_int_int.l0 : Nat → List Int → Int → Int → Int → Option (Int)
 | 0, _, _, _, _ => none
 | k + 1, x0, x1, x7, x8 => if x8 < x7 then (if 0 ≤ x8 then (if x8 < (x0.length : Int) then (if x1 = (rd x0 x8) then (some x8) else (slices_Index_int_int.l0 k x0 x1 x7 (wrap64 (x8 + 1)))) else (none)) else (none)) else (some (-1))
def slices_Index_int_int.f (k : Nat) (l0 : List Int) (a1 : Int) : Option (Int) := slices_Index_int_int.l0 k l0 a1 (l0.length : Int) 0
set_option maxHeartbeats 8000000 in
set_option maxRecDepth 100000 in
theorem slices_Index_int_int.calls (k : Nat) (A0 : Option Addr) (c0 : Nat) (l0 : List Int) (a1 : Int) (r : Int) (w : World) (hr0 : Kd.C (Kd.int .i64) w A0 l0.length l0) (hc0 : l0.length ≤ c0) (h : slices_Index_int_int.f k l0 a1 = some r) :
 Calls Try.prog 184 #[.slice A0 l0.length c0, .int .i64 a1] w fun e w' => e = .returned (.int .i64 r) ∧ Drawn0 w w' := by
 have HR0 := zk hr0
 have HC0 := zk hc0
 clear hr0 hc0
 have H : (slices_Index_int_int.l0 k l0 a1 (l0.length : Int) 0) = some r := h
 clear h
 have H' := zk H
 clear H
 go_enter Try.func184, Try.ntmps184
 go_wp2
 go_loopg [8] k (fun kq v8 w' => ∃ (x8_1 : Int), v8 = .int .i64 x8_1 ∧ Aside0 (slices_Index_int_int.l0 kq l0 a1 (l0.length : Int) x8_1 = some r) ∧ Aside0 (kq ≤ k) ∧ Drawn0 w w')
 case atStart => exact ⟨(0), (by first | rfl | (simp; done) | (simp [*]; done)), H', ⟨Nat.le_refl _⟩, zD⟩
 case round =>
  clear H'
  try clear c1
  try clear p2
  obtain ⟨x8_1, rfl, HA, HK1, ⟨m1, rfl⟩⟩ := hrel
  cases gk with
  | zero => exact absurd HA.out (by simp [slices_Index_int_int.l0])
  | succ k1 =>
   have H := HA.out
   clear HA
   simp only [slices_Index_int_int.l0] at H
   by_cases c3 : x8_1 < (l0.length : Int)
   rotate_left
   · rw [if_neg c3] at H
     have c3b0 := decide_eq_false c3
     clear c3
     obtain rfl := Option.some.inj H
     go_wp2
     go_ret
     exact ⟨zX, zD⟩
   rw [if_pos c3] at H
   have c3b0 := decide_eq_true c3
   clear c3
   by_cases c4 : 0 ≤ x8_1
   rotate_left
   · rw [if_neg c4] at H
     exact absurd H (by simp)
   rw [if_pos c4] at H
   have c4b0 := decide_eq_true c4
   clear c4
   by_cases c5 : x8_1 < (l0.length : Int)
   rotate_left
   · rw [if_neg c5] at H
     exact absurd H (by simp)
   rw [if_pos c5] at H
   have c5b0 := decide_eq_true c5
   clear c5
   by_cases c6 : a1 = (rd l0 x8_1)
   rotate_left
   · rw [if_neg c6] at H
     have c6b0 : (a1 == (rd l0 x8_1)) = false := beq_eq_false_iff_ne.mpr c6
     have c6b1 : (a1 != (rd l0 x8_1)) = true := bne_iff_ne.mpr c6
     have H' := zk H
     clear H
     have p233 : 0 ≤ (x8_1 : Int) := zo (by assumption)
     have q233 : x8_1 < (l0.length : Int) := zo (by assumption)
     obtain ⟨ad233, e233, hx233_0⟩ := Kd.at_int HR0.out x8_1 p233 q233
     cases e233
     replace p233 := eq_true p233
     replace q233 := eq_true q233
     go_wp2
     go_roundg k1
     case measure => have := HK1.out; omega
     case rel => exact ⟨(wrap64 (x8_1 + 1)), (by first | rfl | (simp; done) | (simp [*]; done)), H', ⟨by have := HK1.out; omega⟩, zD⟩
   rw [if_pos c6] at H
   have c6b0 : (a1 == (rd l0 x8_1)) = true := beq_iff_eq.mpr c6
   have c6b1 : (a1 != (rd l0 x8_1)) = false := bne_eq_false_iff_eq.mpr c6
   clear c6
   obtain rfl := Option.some.inj H
   have p233 : 0 ≤ (x8_1 : Int) := zo (by assumption)
   have q233 : x8_1 < (l0.length : Int) := zo (by assumption)
   obtain ⟨ad233, e233, hx233_0⟩ := Kd.at_int HR0.out x8_1 p233 q233
   cases e233
   replace p233 := eq_true p233
   replace q233 := eq_true q233
   go_wp2
   go_ret
   exact ⟨zX, zD⟩

/-! ### slices_Contains_int_int: function 236 -/
def slices_Contains_int_int.f (k : Nat) (l0 : List Int) (a1 : Int) : Option (Bool) := (slices_Index_int_int.f k l0 a1).bind fun t234 => (some (decide (t234 ≥ 0)))
set_option maxHeartbeats 8000000 in
set_option maxRecDepth 100000 in
theorem slices_Contains_int_int.calls (k : Nat) (A0 : Option Addr) (c0 : Nat) (l0 : List Int) (a1 : Int) (r : Bool) (w : World) (hr0 : Kd.C (Kd.int .i64) w A0 l0.length l0) (hc0 : l0.length ≤ c0) (h : slices_Contains_int_int.f k l0 a1 = some r) :
 Calls Try.prog 236 #[.slice A0 l0.length c0, .int .i64 a1] w fun e w' => e = .returned (.bool r) ∧ Drawn0 w w' := by
 have HR0 := zk hr0
 have HC0 := zk hc0
 clear hr0 hc0
 have H : ((slices_Index_int_int.f k l0 a1).bind fun t234 => (some (decide (t234 ≥ 0)))) = some r := h
 clear h
 replace H := Option.bind_eq_some_iff.mp H
 obtain ⟨t234, A30, H⟩ := H
 try dsimp only at H
 have A3 := zk A30
 clear A30
 obtain rfl := Option.some.inj H
 go_enter Try.func236, Try.ntmps236
 go_wp2_with (first | ((with_reducible refine gate_callee (f := 184) rfl ?_); refine zG (some 7) Try.func184 #[.slice A0 l0.length c0, .int .i64 a1] ?_; (with_reducible refine (slices_Index_int_int.calls k _ _ l0 a1 t234 _ ?side1 ?side2 A3.out).mono ?_); (case side1 => exact zC HR0.out); (case side2 => exact HC0.out); rintro e w' ⟨rfl, ⟨nd, rfl⟩⟩; refine ⟨_, rfl, ?_⟩))
 go_ret
 exact ⟨zX, zD⟩

/-! ### impl_isOrder: function 146 -/
mutual
def impl_isOrder.j0 : Nat → List Int → Bool → Option (Bool)
 | 0, _, _ => none
 | k + 1, x0, x12 => if x12 = true then (some false) else (impl_isOrder.l0 k x0 x0 (x0.length : Int) 0)
def impl_isOrder.l0 : Nat → List Int → List Int → Int → Int → Option (Bool)
 | 0, _, _, _, _ => none
 | k + 1, x0, x13, x14, x15 => if x15 < x14 then (if 0 ≤ x15 then (if x15 < (x13.length : Int) then (if (rd x13 x15) < 1 then (some false) else (if (rd x13 x15) > (x0.length : Int) then (some false) else (if x15 ≤ (x0.length : Int) then ((slices_Contains_int_int.f k (x0.take (x15 : Int).toNat) (rd x13 x15)).bind fun t240 => (if t240 = true then (some false) else (impl_isOrder.l0 k x0 x13 x14 (wrap64 (x15 + 1))))) else (none)))) else (none)) else (none)) else (some true)
end
def impl_isOrder.f (k : Nat) (l0 : List Int) : Option (Bool) := if (l0.length : Int) < 1 then (impl_isOrder.j0 k l0 true) else (impl_isOrder.j0 k l0 (decide ((l0.length : Int) > 7)))
set_option maxHeartbeats 8000000 in
set_option maxRecDepth 100000 in
theorem impl_isOrder.calls (k : Nat) (A0 : Option Addr) (c0 : Nat) (l0 : List Int) (r : Bool) (w : World) (hr0 : Kd.C (Kd.int .i64) w A0 l0.length l0) (hc0 : l0.length ≤ c0) (h : impl_isOrder.f k l0 = some r) :
 Calls Try.prog 146 #[.slice A0 l0.length c0] w fun e w' => e = .returned (.bool r) ∧ Drawn0 w w' := by
 have HR0 := zk hr0
 have HC0 := zk hc0
 clear hr0 hc0
 have H := h
 unfold impl_isOrder.f at H
 clear h
 have HC2 := zk H
 clear H
 go_enter Try.func146, Try.ntmps146
 go_upto_region 1 with (fail)
 go_cut [12] (fun v12 wc => ∃ (kq : Nat) (x12_1 : Bool), v12 = .bool x12_1 ∧ Aside0 (impl_isOrder.j0 kq l0 x12_1 = some r) ∧ Aside0 (kq ≤ k) ∧ Drawn0 w wc)
 case first =>
  have H := HC2.out
  clear HC2
  by_cases c3 : (l0.length : Int) < 1
  rotate_left
  · rw [if_neg c3] at H
    have c3b0 := decide_eq_false c3
    have c3b1 : decide (l0.length < 1) = false := decide_eq_false (by omega)
    clear c3
    (first | rw [c3b0] | (simp only [i64_w, i32_w]; rw [c3b0]) | skip)
    have H' := zk H
    clear H
    go_wp2
    go_meet
    case rel => exact ⟨_, (decide ((l0.length : Int) > 7)), (by first | rfl | (simp; done) | (simp [*]; done)), H', ⟨by first | omega | exact Nat.le_refl _⟩, zD⟩
  rw [if_pos c3] at H
  have c3b0 := decide_eq_true c3
  have c3b1 : decide (l0.length < 1) = true := decide_eq_true (by omega)
  clear c3
  (first | rw [c3b0] | (simp only [i64_w, i32_w]; rw [c3b0]) | skip)
  have H' := zk H
  clear H
  go_wp2
  go_meet
  case rel => exact ⟨_, (true), (by first | rfl | (simp; done) | (simp [*]; done)), H', ⟨by first | omega | exact Nat.le_refl _⟩, zD⟩
 case rest =>
  clear HC2
  try clear c1
  try clear p2
  try clear c3
  try clear c3b0
  try clear c3b1
  obtain ⟨kq, x12_1, rfl, HA, HJ1, ⟨mc1, rfl⟩⟩ := hcut
  cases kq with
  | zero => exact absurd HA.out (by simp [impl_isOrder.j0])
  | succ kj1 =>
   have H := HA.out
   clear HA
   simp only [impl_isOrder.j0] at H
   by_cases c4 : x12_1 = true
   rotate_left
   · replace c4 := Bool.eq_false_iff.mpr c4
     subst c4
     have H1 : (impl_isOrder.l0 kj1 l0 l0 (l0.length : Int) 0) = some r := by rw [if_neg (show ¬ (false = true) by decide)] at H; exact H
     clear H
     have H := H1
     clear H1
     have H' := zk H
     clear H
     go_wp2
     go_loopg [15] kj1 (fun kq v15 w' => ∃ (x15_2 : Int), v15 = .int .i64 x15_2 ∧ Aside0 (impl_isOrder.l0 kq l0 l0 (l0.length : Int) x15_2 = some r) ∧ Aside0 (kq ≤ kj1) ∧ Drawn0 w w')
     case atStart => exact ⟨(0), (by first | rfl | (simp; done) | (simp [*]; done)), H', ⟨Nat.le_refl _⟩, zD⟩
     case round =>
      clear H'
      try clear c1
      try clear p2
      try clear c3
      try clear c3b0
      try clear c3b1
      try clear c4
      try clear p2
      obtain ⟨x15_2, rfl, HA, HK2, ⟨m2, rfl⟩⟩ := hrel
      cases gk with
      | zero => exact absurd HA.out (by simp [impl_isOrder.l0])
      | succ k2 =>
       have H := HA.out
       clear HA
       simp only [impl_isOrder.l0] at H
       by_cases c5 : x15_2 < (l0.length : Int)
       rotate_left
       · rw [if_neg c5] at H
         have c5b0 := decide_eq_false c5
         clear c5
         obtain rfl := Option.some.inj H
         go_wp2
         go_ret
         exact ⟨zX, zD⟩
       rw [if_pos c5] at H
       have c5b0 := decide_eq_true c5
       clear c5
       by_cases c6 : 0 ≤ x15_2
       rotate_left
       · rw [if_neg c6] at H
         exact absurd H (by simp)
       rw [if_pos c6] at H
       have c6b0 := decide_eq_true c6
       clear c6
       by_cases c7 : x15_2 < (l0.length : Int)
       rotate_left
       · rw [if_neg c7] at H
         exact absurd H (by simp)
       rw [if_pos c7] at H
       have c7b0 := decide_eq_true c7
       clear c7
       by_cases c8 : (rd l0 x15_2) < 1
       rotate_left
       · rw [if_neg c8] at H
         have c8b0 := decide_eq_false c8
         clear c8
         by_cases c9 : (rd l0 x15_2) > (l0.length : Int)
         rotate_left
         · rw [if_neg c9] at H
           have c9b0 := decide_eq_false c9
           clear c9
           have c10b0 := eq_true (zo (by assumption) : 0 ≤ x15_2)
           by_cases c11 : x15_2 ≤ (l0.length : Int)
           rotate_left
           · rw [if_neg c11] at H
             exact absurd H (by simp)
           rw [if_pos c11] at H
           have c11b0 := eq_true c11
           have c11b1 := decide_eq_true c11
           clear c11
           obtain ⟨y236, hy236⟩ : ∃ y_ : List Int, y_ = (l0.take (x15_2 : Int).toNat) := ⟨_, rfl⟩
           rw [← hy236] at H
           try rw [zO y236] at H
           try dsimp only at H
           have Ny236 := zk hy236
           clear hy236
           replace H := Option.bind_eq_some_iff.mp H
           obtain ⟨t240, A120, H⟩ := H
           try dsimp only at H
           have A12 := zk A120
           clear A120
           by_cases c13 : t240 = true
           rotate_left
           · replace c13 := Bool.eq_false_iff.mpr c13
             subst c13
             have H1 : (impl_isOrder.l0 k2 l0 l0 (l0.length : Int) (wrap64 (x15_2 + 1))) = some r := by rw [if_neg (show ¬ (false = true) by decide)] at H; exact H
             clear H
             have H := H1
             clear H1
             have H' := zk H
             clear H
             have p235 : 0 ≤ (x15_2 : Int) := zo (by assumption)
             have q235 : x15_2 < (l0.length : Int) := zo (by assumption)
             obtain ⟨ad235, e235, hx235_0⟩ := Kd.at_int HR0.out x15_2 p235 q235
             cases e235
             replace p235 := eq_true p235
             replace q235 := eq_true q235
             have q15 : (x15_2 : Int) ≤ ((l0.length : Int) : Int) := zo (by assumption)
             obtain ⟨i015, hi015, _, hsz15, _⟩ := info_parts info3
             have hroom15 : l0.length ≤ c0 := HC0.out
             have hC15 : Kd.C (Kd.int .i64) _ (some ad235) l0.length l0 := HR0.out
             have hcut15 := cut_to (P := Try.prog) 22 3 .i64 Try.underlying22 hi015 (some ad235) l0.length c0 x15_2 (zo (by assumption)) q15 hroom15
             have hr15 := Kd.C_take (m := (x15_2 : Int).toNat) hC15 (by omega)
             have hy15 : y236.length = (x15_2 : Int).toNat := (by rw [Ny236.out, List.length_take]; omega)
             rw [← Ny236.out] at hr15
             rw [← hy15] at hcut15
             have HR239 := zk hr15
             have HC239 := zk (show y236.length ≤ c0 from by omega)
             clear hr15 hC15 hroom15 hi015 hsz15
             have KY15 := zk hy15
             clear hy15
             replace q15 := eq_true q15
             go_wp2_with (first | (go_at_call 236; (with_reducible refine (slices_Contains_int_int.calls k2 _ _ y236 (rd l0 x15_2) false _ ?side1 ?side2 A12.out).mono ?_); (case side1 => exact zC HR239.out); (case side2 => exact HC239.out); rintro e w' ⟨rfl, ⟨nd, rfl⟩⟩))
             go_roundg k2
             case measure => have := HJ1.out; have := HK2.out; omega
             case rel => exact ⟨(wrap64 (x15_2 + 1)), (by first | rfl | (simp; done) | (simp [*]; done)), H', ⟨by have := HJ1.out; have := HK2.out; omega⟩, zD⟩
           subst c13
           have H1 : (some false) = some r := by rw [if_pos rfl] at H; exact H
           clear H
           have H := H1
           clear H1
           obtain rfl := Option.some.inj H
           have p235 : 0 ≤ (x15_2 : Int) := zo (by assumption)
           have q235 : x15_2 < (l0.length : Int) := zo (by assumption)
           obtain ⟨ad235, e235, hx235_0⟩ := Kd.at_int HR0.out x15_2 p235 q235
           cases e235
           replace p235 := eq_true p235
           replace q235 := eq_true q235
           have q14 : (x15_2 : Int) ≤ ((l0.length : Int) : Int) := zo (by assumption)
           obtain ⟨i014, hi014, _, hsz14, _⟩ := info_parts info3
           have hroom14 : l0.length ≤ c0 := HC0.out
           have hC14 : Kd.C (Kd.int .i64) _ (some ad235) l0.length l0 := HR0.out
           have hcut14 := cut_to (P := Try.prog) 22 3 .i64 Try.underlying22 hi014 (some ad235) l0.length c0 x15_2 (zo (by assumption)) q14 hroom14
           have hr14 := Kd.C_take (m := (x15_2 : Int).toNat) hC14 (by omega)
           have hy14 : y236.length = (x15_2 : Int).toNat := (by rw [Ny236.out, List.length_take]; omega)
           rw [← Ny236.out] at hr14
           rw [← hy14] at hcut14
           have HR239 := zk hr14
           have HC239 := zk (show y236.length ≤ c0 from by omega)
           clear hr14 hC14 hroom14 hi014 hsz14
           have KY14 := zk hy14
           clear hy14
           replace q14 := eq_true q14
           go_wp2_with (first | (go_at_call 236; (with_reducible refine (slices_Contains_int_int.calls k2 _ _ y236 (rd l0 x15_2) true _ ?side1 ?side2 A12.out).mono ?_); (case side1 => exact zC HR239.out); (case side2 => exact HC239.out); rintro e w' ⟨rfl, ⟨nd, rfl⟩⟩))
           go_ret
           exact ⟨zX, zD⟩
         rw [if_pos c9] at H
         have c9b0 := decide_eq_true c9
         clear c9
         obtain rfl := Option.some.inj H
         have p235 : 0 ≤ (x15_2 : Int) := zo (by assumption)
         have q235 : x15_2 < (l0.length : Int) := zo (by assumption)
         obtain ⟨ad235, e235, hx235_0⟩ := Kd.at_int HR0.out x15_2 p235 q235
         cases e235
         replace p235 := eq_true p235
         replace q235 := eq_true q235
         go_wp2
         go_ret
         exact ⟨zX, zD⟩
       rw [if_pos c8] at H
       have c8b0 := decide_eq_true c8
       clear c8
       obtain rfl := Option.some.inj H
       have p235 : 0 ≤ (x15_2 : Int) := zo (by assumption)
       have q235 : x15_2 < (l0.length : Int) := zo (by assumption)
       obtain ⟨ad235, e235, hx235_0⟩ := Kd.at_int HR0.out x15_2 p235 q235
       cases e235
       replace p235 := eq_true p235
       replace q235 := eq_true q235
       go_wp2
       go_ret
       exact ⟨zX, zD⟩
   subst c4
   have H1 : (some false) = some r := by rw [if_pos rfl] at H; exact H
   clear H
   have H := H1
   clear H1
   obtain rfl := Option.some.inj H
   go_wp2
   go_ret
   exact ⟨zX, zD⟩

/-! ### impl_isSize: function 158 -/
def impl_isSize.f (a0 : Int) : Option (Bool) := if a0 ≥ 1 then (some (decide (a0 ≤ 7))) else (some false)
set_option maxHeartbeats 8000000 in
set_option maxRecDepth 100000 in
theorem impl_isSize.calls (a0 : Int) (r : Bool) (w : World) (h : impl_isSize.f a0 = some r) :
 Calls Try.prog 158 #[.int .i64 a0] w fun e w' => e = .returned (.bool r) ∧ Drawn0 w w' := by
 have H : (if a0 ≥ 1 then (some (decide (a0 ≤ 7))) else (some false)) = some r := h
 clear h
 by_cases c2 : a0 ≥ 1
 rotate_left
 · rw [if_neg c2] at H
   have c2b0 := decide_eq_false c2
   clear c2
   obtain rfl := Option.some.inj H
   go_enter Try.func158, Try.ntmps158
   go_wp2
   go_ret
   exact ⟨zX, zD⟩
 rw [if_pos c2] at H
 have c2b0 := decide_eq_true c2
 clear c2
 obtain rfl := Option.some.inj H
 go_enter Try.func158, Try.ntmps158
 go_wp2
 go_ret
 exact ⟨zX, zD⟩

end Go.Proofs.Ytlkddcabjcejdaa.MFnContained
