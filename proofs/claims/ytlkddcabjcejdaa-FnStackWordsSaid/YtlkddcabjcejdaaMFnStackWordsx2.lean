/- The functions that FnStackWords comes to, with a walk for each. Made by this session's own program (wip/tools/mk.py), in the form of the kit's print; walks named in NOTES.md were written by hand. -/
import Derived.Test.YtlkddcabjcejdaaMFnStackWordsx0
import Derived.Test.YtlkddcabjcejdaaMFnStackWordsx1
namespace Go.Proofs.Ytlkddcabjcejdaa.MFnStackWords
open Go.RowKit Go.Proofs.YtlkddcabjcejdaaW.PrintWords Go.Proofs.YtlkddcabjcejdaaW.PrintLast Go.Proofs.YtlkddcabjcejdaaW.PrintMore
attribute [local go_sem] max2_int min2_int max_two min_two max_three min_three max_four min_four   -- for this text's walks alone
set_option linter.unusedVariables false
set_option linter.unusedSimpArgs false

/-! ### spec_l2PutOrder: function 151 -/
def spec_l2PutOrder.l0 : Nat → List (List Int) → List Int → Int → Option ((List (List Int)))
 | 0, _, _, _ => none
 | k + 1, x0, x1, x5 => if x5 < (x0.length : Int) then (if 0 ≤ x5 then ((spec_l2Before.f k (rd_L2 x0 x5) x1).bind fun t142 => (if t142 = true then (spec_l2PutOrder.l0 k x0 x1 (wrap64 (x5 + 1))) else ((spec_l1Same.f k (rd_L2 x0 x5) x1).bind fun t144 => (if t144 = true then (some x0) else ((some (([] : List (List Int)) : List (List Int))).bind fun y145 => (if x5 ≤ (x0.length : Int) then ((some (x0.take (x5 : Int).toNat : List (List Int))).bind fun y148 => (if y145.length + y148.length < 5864062014805 then ((some (y145 ++ y148 : List (List Int))).bind fun y153 => ((some (([x1] : List (List Int)) : List (List Int))).bind fun y156 => (if y153.length + y156.length < 5864062014805 then ((some (y153 ++ y156 : List (List Int))).bind fun y159 => ((some (x0.drop (x5 : Int).toNat : List (List Int))).bind fun y162 => (if y159.length + y162.length < 5864062014805 then (some (y159 ++ y162)) else (none)))) else (none)))) else (none))) else (none))))))) else (none)) else ((some (([] : List (List Int)) : List (List Int))).bind fun y170 => (if 0 ≤ x5 then (if x5 ≤ (x0.length : Int) then ((some (x0.take (x5 : Int).toNat : List (List Int))).bind fun y173 => (if y170.length + y173.length < 5864062014805 then ((some (y170 ++ y173 : List (List Int))).bind fun y178 => ((some (([x1] : List (List Int)) : List (List Int))).bind fun y181 => (if y178.length + y181.length < 5864062014805 then ((some (y178 ++ y181 : List (List Int))).bind fun y184 => ((some (x0.drop (x5 : Int).toNat : List (List Int))).bind fun y187 => (if y184.length + y187.length < 5864062014805 then (some (y184 ++ y187)) else (none)))) else (none)))) else (none))) else (none)) else (none)))
def spec_l2PutOrder.f (k : Nat) (l0 : List (List Int)) (l1 : List Int) : Option ((List (List Int))) := spec_l2PutOrder.l0 k l0 l1 0
def spec_l2PutOrder.T6 : Bool × List (List Nat × List Nat) := (true, [([], []), ([], []), ([], []), ([1, 2], [1, 2]), ([0, 3], [0, 3]), ([], []), ([5], [5]), ([4, 6, 4], [4, 6]), ([], []), ([], []), ([8, 9], [8, 9]), ([7, 10, 7], [7, 10]), ([11, 11, 0, 1, 2, 3, 4, 5, 6, 7, 8, 9, 10, 11], [11])])
def spec_l2PutOrder.B6 : List Nat := [0, 0, 0, 6, 15, 0, 32, 127, 0, 0, 768, 2047, 4095]
theorem spec_l2PutOrder.tab6 : rtab .any (opsOf Try.f151 6) = spec_l2PutOrder.T6 := by kernel_rfl
theorem spec_l2PutOrder.bits6 : waitsOk spec_l2PutOrder.T6.2 spec_l2PutOrder.B6 = true := by kernel_rfl
set_option maxHeartbeats 8000000 in
set_option maxRecDepth 100000 in
theorem spec_l2PutOrder.calls (k : Nat) (P0_ : Nat → Prop) (A0 : Option Addr) (c0 : Nat) (l0 : List (List Int)) (P1_ : Nat → Prop) (A1 : Option Addr) (c1 : Nat) (l1 : List Int) (r : List (List Int)) (w : World) (hs0 : Kd.V (Kd.slice 3 (Kd.int .i64)) 22 w w.heap.size (fun k_ => P0_ k_) (.slice A0 l0.length c0) l0) (hs1 : Kd.V (Kd.int .i64) 3 w w.heap.size (fun k_ => P1_ k_) (.slice A1 l1.length c1) l1) (h : spec_l2PutOrder.f k l0 l1 = some r) :
 Calls Try.prog 151 #[.slice A0 l0.length c0, .slice A1 l1.length c1] w fun e w' => ∃ v0_ : Value, e = .returned (v0_) ∧ Kd.V (Kd.slice 3 (Kd.int .i64)) 22 w' w.heap.size (fun k_ => ((P0_ k_ ∨ P1_ k_) ∨ w.heap.size ≤ k_)) v0_ r ∧ Below w.heap.size w w' := by
 have HO0 := zk (show Kd.V (Kd.slice 3 (Kd.int .i64)) 22 w w.heap.size (fun k_ => ((P0_ k_ ∨ P1_ k_) ∨ w.heap.size ≤ k_)) (.slice A0 l0.length c0) l0 from Kd.V_mono hs0 (fun k_ hk => .inl (.inl hk)))
 have HO1 := zk (show Kd.V (Kd.int .i64) 3 w w.heap.size (fun k_ => ((P0_ k_ ∨ P1_ k_) ∨ w.heap.size ≤ k_)) (.slice A1 l1.length c1) l1 from Kd.V_mono hs1 (fun k_ hk => .inl (.inr hk)))
 have HB := zk (Below.refl w.heap.size w)
 have H : (spec_l2PutOrder.l0 k l0 l1 0) = some r := h
 clear h
 have H' := zk H
 clear H
 go_enter Try.func151, Try.ntmps151
 go_wp2
 go_loopg [5] k (fun kq v5 w' => ∃ (x5_1 : Int), v5 = .int .i64 x5_1 ∧ Aside0 (spec_l2PutOrder.l0 kq l0 l1 x5_1 = some r) ∧ Aside0 (kq ≤ k) ∧ Aside0 (Kd.V (Kd.slice 3 (Kd.int .i64)) 22 w' w.heap.size (fun k_ => ((P0_ k_ ∨ P1_ k_) ∨ w.heap.size ≤ k_)) (.slice A0 l0.length c0) l0) ∧ Aside0 (Kd.V (Kd.int .i64) 3 w' w.heap.size (fun k_ => ((P0_ k_ ∨ P1_ k_) ∨ w.heap.size ≤ k_)) (.slice A1 l1.length c1) l1) ∧ Aside0 (Below w.heap.size w w'))
 case atStart => exact ⟨(0), (by first | rfl | (simp; done) | (simp [*]; done)), H', ⟨Nat.le_refl _⟩, ⟨by (with_reducible repeat (first | apply Kd.V_alloc | apply Kd.V_drewN | apply Kd.V_drew)); exact HO0.out⟩, ⟨by (with_reducible repeat (first | apply Kd.V_alloc | apply Kd.V_drewN | apply Kd.V_drew)); exact HO1.out⟩, ⟨by repeat (first | exact HB.out | apply za | apply zd | apply ze)⟩⟩
 case round =>
  clear H'
  try clear c1
  try clear p2
  obtain ⟨x5_1, rfl, HA, HK1, HO_0, HO_1, HB⟩ := hrel
  cases gk with
  | zero => exact absurd HA.out (by simp [spec_l2PutOrder.l0])
  | succ k1 =>
   have H := HA.out
   clear HA
   simp only [spec_l2PutOrder.l0] at H
   by_cases c3 : x5_1 < (l0.length : Int)
   · rw [if_pos c3] at H
     have c3b0 : decide (x5_1 < (l0.length : Int)) = true := decide_eq_true c3
     clear c3
     by_cases c4 : 0 ≤ x5_1
     · rw [if_pos c4] at H
       have c4b0 : decide (0 ≤ x5_1) = true := decide_eq_true c4
       clear c4
       replace H := Option.bind_eq_some_iff.mp H
       obtain ⟨t142, A50, H⟩ := H
       try dsimp only at H
       have A5 := zk A50
       clear A50
       by_cases c6 : t142 = true
       · subst c6
         have H1 : (spec_l2PutOrder.l0 k1 l0 l1 (wrap64 (x5_1 + 1))) = some r := by rw [if_pos rfl] at H; exact H
         clear H
         have H := H1
         clear H1
         have H' := zk H
         clear H
         have p141 : 0 ≤ (x5_1 : Int) := zo (by assumption)
         have q141 : x5_1 < (l0.length : Int) := zo (by assumption)
         obtain ⟨ad141, A141_0, c141_0, e141, hx141_0, hl141_0, hi141_0⟩ := at_L2 (Kd.V_reads' HO_0.out).2.2 x5_1 p141 q141
         cases e141
         obtain ⟨ce141, hce141, hMe141, hcc141⟩ := Kd.V_get HO_0.out [] x5_1 p141 (by first | exact q141 | exact zo (by assumption) | (have e_ := (Kd.V_reads' HO_0.out).1; omega))
         obtain ⟨ua141_0, uc141_0, rfl, ul141_0, ge141_0⟩ := Kd.FK_slice_open hMe141
         have hv141_0 := hcc141 0 _ rfl
         rw [Nat.add_zero, show ((Kd.slice 3 (Kd.int .i64))).sz = 1 from rfl, Nat.mul_one] at hv141_0
         replace hv141_0 := Option.some.inj (hv141_0.symm.trans hx141_0)
         injection hv141_0 with hva_ hvn_ hvc_
         rw [hva_] at ge141_0
         rw [hvc_] at ul141_0
         have HL141_0 := zk (show Kd.V (Kd.int .i64) 3 _ w.heap.size _ _ (rd_L2 l0 x5_1) from Kd.V_mk ul141_0 ge141_0)
         clear hva_ hvn_ hvc_ ge141_0 ul141_0
         clear hcc141 hce141
         have HR141_0 := zk hi141_0
         have HC141_0 := zk hl141_0
         clear hi141_0 hl141_0
         replace p141 := eq_true p141
         replace q141 := eq_true q141
         go_wp2_with (first | (go_at_call 227; (with_reducible refine (spec_l2Before.calls k1 _ _ (rd_L2 l0 x5_1) _ _ l1 true _ ?side1 ?side2 ?side3 ?side4 A5.out).mono ?_); (case side1 => repeat (first | exact (by repeat (first | (with_reducible exact HR141_0.out) | (with_reducible refine zv ?_ _) | (with_reducible refine zu ?_ _) | (with_reducible refine zw ?_) | exact HR141_0.out)) | (with_reducible refine zv ?_ _) | (with_reducible refine zu ?_ _) | (with_reducible refine zw ?_))); (case side2 => exact HC141_0.out); (case side3 => repeat (first | exact (Kd.V_reads' HO_1.out).2.2 | (with_reducible refine zv ?_ _) | (with_reducible refine zu ?_ _) | (with_reducible refine zw ?_))); (case side4 => exact (Kd.V_reads' HO_1.out).2.1); rintro e w' ⟨rfl, ⟨nd, rfl⟩⟩))
         go_roundg k1
         case measure => have := HK1.out; omega
         case rel => exact ⟨(wrap64 (x5_1 + 1)), (by first | rfl | (simp; done) | (simp [*]; done)), H', ⟨by have := HK1.out; omega⟩, ⟨by (with_reducible repeat (first | apply Kd.V_alloc | apply Kd.V_drewN | apply Kd.V_drew)); exact HO_0.out⟩, ⟨by (with_reducible repeat (first | apply Kd.V_alloc | apply Kd.V_drewN | apply Kd.V_drew)); exact HO_1.out⟩, ⟨by repeat (first | exact HB.out | apply za | apply zd | apply ze)⟩⟩
       · replace c6 := Bool.eq_false_iff.mpr c6
         subst c6
         have H1 : ((spec_l1Same.f k1 (rd_L2 l0 x5_1) l1).bind fun t144 => (if t144 = true then (some l0) else ((some (([] : List (List Int)) : List (List Int))).bind fun y145 => (if x5_1 ≤ (l0.length : Int) then ((some (l0.take (x5_1 : Int).toNat : List (List Int))).bind fun y148 => (if y145.length + y148.length < 5864062014805 then ((some (y145 ++ y148 : List (List Int))).bind fun y153 => ((some (([l1] : List (List Int)) : List (List Int))).bind fun y156 => (if y153.length + y156.length < 5864062014805 then ((some (y153 ++ y156 : List (List Int))).bind fun y159 => ((some (l0.drop (x5_1 : Int).toNat : List (List Int))).bind fun y162 => (if y159.length + y162.length < 5864062014805 then (some (y159 ++ y162)) else (none)))) else (none)))) else (none))) else (none))))) = some r := by rw [if_neg (show ¬ (false = true) by decide)] at H; exact H
         clear H
         have H := H1
         clear H1
         replace H := Option.bind_eq_some_iff.mp H
         obtain ⟨t144, A70, H⟩ := H
         try dsimp only at H
         have A7 := zk A70
         clear A70
         by_cases c8 : t144 = true
         · subst c8
           have H1 : (some l0) = some r := by rw [if_pos rfl] at H; exact H
           clear H
           have H := H1
           clear H1
           obtain rfl := Option.some.inj H
           have p141 : 0 ≤ (x5_1 : Int) := zo (by assumption)
           have q141 : x5_1 < (l0.length : Int) := zo (by assumption)
           obtain ⟨ad141, A141_0, c141_0, e141, hx141_0, hl141_0, hi141_0⟩ := at_L2 (Kd.V_reads' HO_0.out).2.2 x5_1 p141 q141
           cases e141
           obtain ⟨ce141, hce141, hMe141, hcc141⟩ := Kd.V_get HO_0.out [] x5_1 p141 (by first | exact q141 | exact zo (by assumption) | (have e_ := (Kd.V_reads' HO_0.out).1; omega))
           obtain ⟨ua141_0, uc141_0, rfl, ul141_0, ge141_0⟩ := Kd.FK_slice_open hMe141
           have hv141_0 := hcc141 0 _ rfl
           rw [Nat.add_zero, show ((Kd.slice 3 (Kd.int .i64))).sz = 1 from rfl, Nat.mul_one] at hv141_0
           replace hv141_0 := Option.some.inj (hv141_0.symm.trans hx141_0)
           injection hv141_0 with hva_ hvn_ hvc_
           rw [hva_] at ge141_0
           rw [hvc_] at ul141_0
           have HL141_0 := zk (show Kd.V (Kd.int .i64) 3 _ w.heap.size _ _ (rd_L2 l0 x5_1) from Kd.V_mk ul141_0 ge141_0)
           clear hva_ hvn_ hvc_ ge141_0 ul141_0
           clear hcc141 hce141
           have HR141_0 := zk hi141_0
           have HC141_0 := zk hl141_0
           clear hi141_0 hl141_0
           replace p141 := eq_true p141
           replace q141 := eq_true q141
           go_wp2_with (first | (go_at_call 227; (with_reducible refine (spec_l2Before.calls k1 _ _ (rd_L2 l0 x5_1) _ _ l1 false _ ?side1 ?side2 ?side3 ?side4 A5.out).mono ?_); (case side1 => repeat (first | exact (by repeat (first | (with_reducible exact HR141_0.out) | (with_reducible refine zv ?_ _) | (with_reducible refine zu ?_ _) | (with_reducible refine zw ?_) | exact HR141_0.out)) | (with_reducible refine zv ?_ _) | (with_reducible refine zu ?_ _) | (with_reducible refine zw ?_))); (case side2 => exact HC141_0.out); (case side3 => repeat (first | exact (Kd.V_reads' HO_1.out).2.2 | (with_reducible refine zv ?_ _) | (with_reducible refine zu ?_ _) | (with_reducible refine zw ?_))); (case side4 => exact (Kd.V_reads' HO_1.out).2.1); rintro e w' ⟨rfl, ⟨nd, rfl⟩⟩; have p143 : 0 ≤ (x5_1 : Int) := zo (by assumption); have q143 : x5_1 < (l0.length : Int) := zo (by assumption); obtain ⟨ad143, A143_0, c143_0, e143, hx143_0, hl143_0, hi143_0⟩ := at_L2 (Kd.V_reads' HO_0.out).2.2 x5_1 p143 q143; obtain rfl : ad141 = ad143 := (by injection e143); obtain ⟨ce143, hce143, hMe143, hcc143⟩ := Kd.V_get HO_0.out [] x5_1 p143 (by first | exact q143 | exact zo (by assumption) | (have e_ := (Kd.V_reads' HO_0.out).1; omega)); obtain ⟨ua143_0, uc143_0, rfl, ul143_0, ge143_0⟩ := Kd.FK_slice_open hMe143; have hv143_0 := hcc143 0 _ rfl; rw [Nat.add_zero, show ((Kd.slice 3 (Kd.int .i64))).sz = 1 from rfl, Nat.mul_one] at hv143_0; replace hv143_0 := Option.some.inj (hv143_0.symm.trans hx143_0); injection hv143_0 with hva_ hvn_ hvc_; rw [hva_] at ge143_0; rw [hvc_] at ul143_0; have HL143_0 := zk (show Kd.V (Kd.int .i64) 3 _ w.heap.size _ _ (rd_L2 l0 x5_1) from Kd.V_mk ul143_0 ge143_0); clear hva_ hvn_ hvc_ ge143_0 ul143_0; clear hcc143 hce143; have HR143_0 := zk hi143_0; have HC143_0 := zk hl143_0; clear hi143_0 hl143_0; replace p143 := eq_true p143; replace q143 := eq_true q143; have ea_ := Option.some.inj (hx141_0.symm.trans hx143_0); injection ea_ with ea_ en_ ec_; subst ea_; subst ec_; clear en_) | (go_at_call 170; (with_reducible refine (spec_l1Same.calls k1 _ _ (rd_L2 l0 x5_1) _ _ l1 true _ ?side1 ?side2 ?side3 ?side4 A7.out).mono ?_); (case side1 => repeat (first | exact (by repeat (first | (with_reducible exact HR143_0.out) | (with_reducible refine zv ?_ _) | (with_reducible refine zu ?_ _) | (with_reducible refine zw ?_) | exact HR143_0.out)) | (with_reducible refine zv ?_ _) | (with_reducible refine zu ?_ _) | (with_reducible refine zw ?_))); (case side2 => exact HC143_0.out); (case side3 => repeat (first | exact (Kd.V_reads' HO_1.out).2.2 | (with_reducible refine zv ?_ _) | (with_reducible refine zu ?_ _) | (with_reducible refine zw ?_))); (case side4 => exact (Kd.V_reads' HO_1.out).2.1); rintro e w' ⟨rfl, ⟨nd, rfl⟩⟩))
           go_ret
           exact ⟨_, by first | rfl | (simp [errW_none, errW_some] <;> rfl) | (simp [*, errW_none, errW_some] <;> rfl), by (with_reducible repeat (first | apply Kd.V_alloc | apply Kd.V_drewN | apply Kd.V_drew)); exact HO_0.out, by repeat (first | exact HB.out | apply za | apply zd | apply ze)⟩
         · replace c8 := Bool.eq_false_iff.mpr c8
           subst c8
           have H1 : ((some (([] : List (List Int)) : List (List Int))).bind fun y145 => (if x5_1 ≤ (l0.length : Int) then ((some (l0.take (x5_1 : Int).toNat : List (List Int))).bind fun y148 => (if y145.length + y148.length < 5864062014805 then ((some (y145 ++ y148 : List (List Int))).bind fun y153 => ((some (([l1] : List (List Int)) : List (List Int))).bind fun y156 => (if y153.length + y156.length < 5864062014805 then ((some (y153 ++ y156 : List (List Int))).bind fun y159 => ((some (l0.drop (x5_1 : Int).toNat : List (List Int))).bind fun y162 => (if y159.length + y162.length < 5864062014805 then (some (y159 ++ y162)) else (none)))) else (none)))) else (none))) else (none))) = some r := by rw [if_neg (show ¬ (false = true) by decide)] at H; exact H
           clear H
           have H := H1
           clear H1
           obtain ⟨y145, hy145⟩ : ∃ y_ : List (List Int), y_ = (([] : List (List Int))) := ⟨_, rfl⟩
           replace H : (if x5_1 ≤ (l0.length : Int) then ((some (l0.take (x5_1 : Int).toNat : List (List Int))).bind fun y148 => (if y145.length + y148.length < 5864062014805 then ((some (y145 ++ y148 : List (List Int))).bind fun y153 => ((some (([l1] : List (List Int)) : List (List Int))).bind fun y156 => (if y153.length + y156.length < 5864062014805 then ((some (y153 ++ y156 : List (List Int))).bind fun y159 => ((some (l0.drop (x5_1 : Int).toNat : List (List Int))).bind fun y162 => (if y159.length + y162.length < 5864062014805 then (some (y159 ++ y162)) else (none)))) else (none)))) else (none))) else (none)) = some r := by first | (rw [hy145]; with_reducible exact H) | (have H2_ := (Option.bind_some _ _).symm.trans H; rw [hy145]; with_reducible exact H2_) | (have H2_ := (Option.bind_some _ _).symm.trans H; with_reducible exact H2_) | with_reducible exact H | (rw [hy145]; exact H) | exact H
           have Ny145 := zk hy145
           clear hy145
           have c9b0 := eq_true (zo (by assumption) : 0 ≤ x5_1)
           by_cases c10 : x5_1 ≤ (l0.length : Int)
           · rw [if_pos c10] at H
             have c10b0 := eq_true c10
             have c10b1 : decide (x5_1 ≤ (l0.length : Int)) = true := decide_eq_true c10
             clear c10
             obtain ⟨y148, hy148⟩ : ∃ y_ : List (List Int), y_ = (l0.take (x5_1 : Int).toNat) := ⟨_, rfl⟩
             replace H : (if y145.length + y148.length < 5864062014805 then ((some (y145 ++ y148 : List (List Int))).bind fun y153 => ((some (([l1] : List (List Int)) : List (List Int))).bind fun y156 => (if y153.length + y156.length < 5864062014805 then ((some (y153 ++ y156 : List (List Int))).bind fun y159 => ((some (l0.drop (x5_1 : Int).toNat : List (List Int))).bind fun y162 => (if y159.length + y162.length < 5864062014805 then (some (y159 ++ y162)) else (none)))) else (none)))) else (none)) = some r := by first | (rw [hy148]; with_reducible exact H) | (have H2_ := (Option.bind_some _ _).symm.trans H; rw [hy148]; with_reducible exact H2_) | (have H2_ := (Option.bind_some _ _).symm.trans H; with_reducible exact H2_) | with_reducible exact H | (rw [hy148]; exact H) | exact H
             have Ny148 := zk hy148
             clear hy148
             by_cases c11 : y145.length + y148.length < 5864062014805
             · rw [if_pos c11] at H
               have LMc11 := zk c11
               clear c11
               obtain ⟨y153, hy153⟩ : ∃ y_ : List (List Int), y_ = (y145 ++ y148) := ⟨_, rfl⟩
               replace H : ((some (([l1] : List (List Int)) : List (List Int))).bind fun y156 => (if y153.length + y156.length < 5864062014805 then ((some (y153 ++ y156 : List (List Int))).bind fun y159 => ((some (l0.drop (x5_1 : Int).toNat : List (List Int))).bind fun y162 => (if y159.length + y162.length < 5864062014805 then (some (y159 ++ y162)) else (none)))) else (none))) = some r := by first | (rw [hy153]; with_reducible exact H) | (have H2_ := (Option.bind_some _ _).symm.trans H; rw [hy153]; with_reducible exact H2_) | (have H2_ := (Option.bind_some _ _).symm.trans H; with_reducible exact H2_) | with_reducible exact H | (rw [hy153]; exact H) | exact H
               have Ny153 := zk hy153
               clear hy153
               obtain ⟨y156, hy156⟩ : ∃ y_ : List (List Int), y_ = (([l1] : List (List Int))) := ⟨_, rfl⟩
               replace H : (if y153.length + y156.length < 5864062014805 then ((some (y153 ++ y156 : List (List Int))).bind fun y159 => ((some (l0.drop (x5_1 : Int).toNat : List (List Int))).bind fun y162 => (if y159.length + y162.length < 5864062014805 then (some (y159 ++ y162)) else (none)))) else (none)) = some r := by first | (rw [hy156]; with_reducible exact H) | (have H2_ := (Option.bind_some _ _).symm.trans H; rw [hy156]; with_reducible exact H2_) | (have H2_ := (Option.bind_some _ _).symm.trans H; with_reducible exact H2_) | with_reducible exact H | (rw [hy156]; exact H) | exact H
               have Ny156 := zk hy156
               clear hy156
               by_cases c12 : y153.length + y156.length < 5864062014805
               · rw [if_pos c12] at H
                 have LMc12 := zk c12
                 clear c12
                 obtain ⟨y159, hy159⟩ : ∃ y_ : List (List Int), y_ = (y153 ++ y156) := ⟨_, rfl⟩
                 replace H : ((some (l0.drop (x5_1 : Int).toNat : List (List Int))).bind fun y162 => (if y159.length + y162.length < 5864062014805 then (some (y159 ++ y162)) else (none))) = some r := by first | (rw [hy159]; with_reducible exact H) | (have H2_ := (Option.bind_some _ _).symm.trans H; rw [hy159]; with_reducible exact H2_) | (have H2_ := (Option.bind_some _ _).symm.trans H; with_reducible exact H2_) | with_reducible exact H | (rw [hy159]; exact H) | exact H
                 have Ny159 := zk hy159
                 clear hy159
                 have c13b0 := eq_true (zo (by assumption) : 0 ≤ x5_1)
                 have c14b0 := eq_true (zo (by assumption) : x5_1 ≤ (l0.length : Int))
                 obtain ⟨y162, hy162⟩ : ∃ y_ : List (List Int), y_ = (l0.drop (x5_1 : Int).toNat) := ⟨_, rfl⟩
                 replace H : (if y159.length + y162.length < 5864062014805 then (some (y159 ++ y162)) else (none)) = some r := by first | (rw [hy162]; with_reducible exact H) | (have H2_ := (Option.bind_some _ _).symm.trans H; rw [hy162]; with_reducible exact H2_) | (have H2_ := (Option.bind_some _ _).symm.trans H; with_reducible exact H2_) | with_reducible exact H | (rw [hy162]; exact H) | exact H
                 have Ny162 := zk hy162
                 clear hy162
                 by_cases c15 : y159.length + y162.length < 5864062014805
                 · rw [if_pos c15] at H
                   have LMc15 := zk c15
                   clear c15
                   obtain ⟨y167, hy167⟩ : ∃ y_ : List (List Int), y_ = (y159 ++ y162) := ⟨_, rfl⟩
                   replace H : (some y167) = some r := by first | (rw [hy167]; with_reducible exact H) | (have H2_ := (Option.bind_some _ _).symm.trans H; rw [hy167]; with_reducible exact H2_) | (have H2_ := (Option.bind_some _ _).symm.trans H; with_reducible exact H2_) | with_reducible exact H | (rw [hy167]; exact H) | exact H
                   have Ny167 := zk hy167
                   clear hy167
                   obtain rfl := Option.some.inj H
                   have p141 : 0 ≤ (x5_1 : Int) := zo (by assumption)
                   have q141 : x5_1 < (l0.length : Int) := zo (by assumption)
                   obtain ⟨ad141, A141_0, c141_0, e141, hx141_0, hl141_0, hi141_0⟩ := at_L2 (Kd.V_reads' HO_0.out).2.2 x5_1 p141 q141
                   cases e141
                   obtain ⟨ce141, hce141, hMe141, hcc141⟩ := Kd.V_get HO_0.out [] x5_1 p141 (by first | exact q141 | exact zo (by assumption) | (have e_ := (Kd.V_reads' HO_0.out).1; omega))
                   obtain ⟨ua141_0, uc141_0, rfl, ul141_0, ge141_0⟩ := Kd.FK_slice_open hMe141
                   have hv141_0 := hcc141 0 _ rfl
                   rw [Nat.add_zero, show ((Kd.slice 3 (Kd.int .i64))).sz = 1 from rfl, Nat.mul_one] at hv141_0
                   replace hv141_0 := Option.some.inj (hv141_0.symm.trans hx141_0)
                   injection hv141_0 with hva_ hvn_ hvc_
                   rw [hva_] at ge141_0
                   rw [hvc_] at ul141_0
                   have HL141_0 := zk (show Kd.V (Kd.int .i64) 3 _ w.heap.size _ _ (rd_L2 l0 x5_1) from Kd.V_mk ul141_0 ge141_0)
                   clear hva_ hvn_ hvc_ ge141_0 ul141_0
                   clear hcc141 hce141
                   have HR141_0 := zk hi141_0
                   have HC141_0 := zk hl141_0
                   clear hi141_0 hl141_0
                   replace p141 := eq_true p141
                   replace q141 := eq_true q141
                   try go_wp2_with (first | (go_at_call 227; (with_reducible refine (spec_l2Before.calls k1 _ _ (rd_L2 l0 x5_1) _ _ l1 false _ ?side1 ?side2 ?side3 ?side4 A5.out).mono ?_); (case side1 => repeat (first | exact (by repeat (first | (with_reducible exact HR141_0.out) | (with_reducible refine zv ?_ _) | (with_reducible refine zu ?_ _) | (with_reducible refine zw ?_) | exact HR141_0.out)) | (with_reducible refine zv ?_ _) | (with_reducible refine zu ?_ _) | (with_reducible refine zw ?_))); (case side2 => exact HC141_0.out); (case side3 => repeat (first | exact (Kd.V_reads' HO_1.out).2.2 | (with_reducible refine zv ?_ _) | (with_reducible refine zu ?_ _) | (with_reducible refine zw ?_))); (case side4 => exact (Kd.V_reads' HO_1.out).2.1); rintro e w' ⟨rfl, ⟨nd, rfl⟩⟩; have p143 : 0 ≤ (x5_1 : Int) := zo (by assumption); have q143 : x5_1 < (l0.length : Int) := zo (by assumption); obtain ⟨ad143, A143_0, c143_0, e143, hx143_0, hl143_0, hi143_0⟩ := at_L2 (Kd.V_reads' HO_0.out).2.2 x5_1 p143 q143; obtain rfl : ad141 = ad143 := (by injection e143); obtain ⟨ce143, hce143, hMe143, hcc143⟩ := Kd.V_get HO_0.out [] x5_1 p143 (by first | exact q143 | exact zo (by assumption) | (have e_ := (Kd.V_reads' HO_0.out).1; omega)); obtain ⟨ua143_0, uc143_0, rfl, ul143_0, ge143_0⟩ := Kd.FK_slice_open hMe143; have hv143_0 := hcc143 0 _ rfl; rw [Nat.add_zero, show ((Kd.slice 3 (Kd.int .i64))).sz = 1 from rfl, Nat.mul_one] at hv143_0; replace hv143_0 := Option.some.inj (hv143_0.symm.trans hx143_0); injection hv143_0 with hva_ hvn_ hvc_; rw [hva_] at ge143_0; rw [hvc_] at ul143_0; have HL143_0 := zk (show Kd.V (Kd.int .i64) 3 _ w.heap.size _ _ (rd_L2 l0 x5_1) from Kd.V_mk ul143_0 ge143_0); clear hva_ hvn_ hvc_ ge143_0 ul143_0; clear hcc143 hce143; have HR143_0 := zk hi143_0; have HC143_0 := zk hl143_0; clear hi143_0 hl143_0; replace p143 := eq_true p143; replace q143 := eq_true q143; have ea_ := Option.some.inj (hx141_0.symm.trans hx143_0); injection ea_ with ea_ en_ ec_; subst ea_; subst ec_; clear en_) | (go_at_call 170; (with_reducible refine (spec_l1Same.calls k1 _ _ (rd_L2 l0 x5_1) _ _ l1 false _ ?side1 ?side2 ?side3 ?side4 A7.out).mono ?_); (case side1 => repeat (first | exact (by repeat (first | (with_reducible exact HR143_0.out) | (with_reducible refine zv ?_ _) | (with_reducible refine zu ?_ _) | (with_reducible refine zw ?_) | exact HR143_0.out)) | (with_reducible refine zv ?_ _) | (with_reducible refine zu ?_ _) | (with_reducible refine zw ?_))); (case side2 => exact HC143_0.out); (case side3 => repeat (first | exact (Kd.V_reads' HO_1.out).2.2 | (with_reducible refine zv ?_ _) | (with_reducible refine zu ?_ _) | (with_reducible refine zw ?_))); (case side4 => exact (Kd.V_reads' HO_1.out).2.1); rintro e w' ⟨rfl, ⟨nd, rfl⟩⟩))
                   (try (rw [drewN_self wr]; generalize hq_ : World.drewN wr _ = wr; have n0_ : Aside0 (Kd.V (Kd.int .i64) 3 wr w.heap.size (fun k_ => ((P0_ k_ ∨ P1_ k_) ∨ w.heap.size ≤ k_)) (.slice A141_0 (rd_L2 l0 x5_1).length c141_0) (rd_L2 l0 x5_1)) := ⟨by rw [← hq_]; exact (by (with_reducible repeat (first | apply Kd.V_alloc | apply Kd.V_drewN | apply Kd.V_drew)); exact HL141_0.out)⟩; have n1_ : Aside0 (Kd.V (Kd.int .i64) 3 wr w.heap.size (fun k_ => ((P0_ k_ ∨ P1_ k_) ∨ w.heap.size ≤ k_)) (.slice A141_0 (rd_L2 l0 x5_1).length c141_0) (rd_L2 l0 x5_1)) := ⟨by rw [← hq_]; exact (by (with_reducible repeat (first | apply Kd.V_alloc | apply Kd.V_drewN | apply Kd.V_drew)); exact HL143_0.out)⟩; have n2_ : Aside0 (Kd.V (Kd.slice 3 (Kd.int .i64)) 22 wr w.heap.size (fun k_ => ((P0_ k_ ∨ P1_ k_) ∨ w.heap.size ≤ k_)) (.slice (some ad141) l0.length c0) l0) := ⟨by rw [← hq_]; exact (by (with_reducible repeat (first | apply Kd.V_alloc | apply Kd.V_drewN | apply Kd.V_drew)); exact HO_0.out)⟩; have n3_ : Aside0 (Kd.V (Kd.int .i64) 3 wr w.heap.size (fun k_ => ((P0_ k_ ∨ P1_ k_) ∨ w.heap.size ≤ k_)) (.slice A1 l1.length c1) l1) := ⟨by rw [← hq_]; exact (by (with_reducible repeat (first | apply Kd.V_alloc | apply Kd.V_drewN | apply Kd.V_drew)); exact HO_1.out)⟩; have n4_ : Aside0 (Below w.heap.size w wr) := ⟨by rw [← hq_]; exact (by repeat (first | exact HB.out | apply za | apply zd | apply ze))⟩; have n5_ : Aside0 (Kd.C (Kd.int .i64) wr A141_0 (rd_L2 l0 x5_1).length (rd_L2 l0 x5_1)) := ⟨by rw [← hq_]; exact (by repeat (first | (with_reducible exact HR141_0.out) | (with_reducible refine zv ?_ _) | (with_reducible refine zu ?_ _) | (with_reducible refine zw ?_) | exact HR141_0.out))⟩; have n6_ : Aside0 (Kd.C (Kd.int .i64) wr A141_0 (rd_L2 l0 x5_1).length (rd_L2 l0 x5_1)) := ⟨by rw [← hq_]; exact (by repeat (first | (with_reducible exact HR143_0.out) | (with_reducible refine zv ?_ _) | (with_reducible refine zu ?_ _) | (with_reducible refine zw ?_) | exact HR143_0.out))⟩; clear HL141_0 HL143_0 HO_0 HO_1 HB HR141_0 HR143_0 hq_; have HL141_0 := n0_; have HL143_0 := n1_; have HO_0 := n2_; have HO_1 := n3_; have HB := n4_; have HR141_0 := n5_; have HR143_0 := n6_; clear n0_ n1_ n2_ n3_ n4_ n5_ n6_))
                   have n0_ := zk (Kd.V_drew HO_0.out)
                   have n1_ := zk (Kd.V_drew HO_1.out)
                   have n2_ := zk (Kd.V_drew HL141_0.out)
                   have n3_ := zk (Kd.V_drew HL143_0.out)
                   have n4_ := zk (zw HR141_0.out)
                   have n5_ := zk (zw HR143_0.out)
                   have n6_ := zk (ze HB.out)
                   clear HO_0
                   clear HO_1
                   clear HL141_0
                   clear HL143_0
                   clear HR141_0
                   clear HR143_0
                   clear HB
                   have HO_0 := n0_
                   have HO_1 := n1_
                   have HL141_0 := n2_
                   have HL143_0 := n3_
                   have HR141_0 := n4_
                   have HR143_0 := n5_
                   have HB := n6_
                   clear n0_ n1_ n2_ n3_ n4_ n5_ n6_
                   have q17 : (x5_1 : Int) ≤ ((l0.length : Int) : Int) := zo (by assumption)
                   obtain ⟨i017, hi017, _, hsz17, _⟩ := info_parts info22
                   have hroom17 : l0.length ≤ c0 := (Kd.V_reads' HO_0.out).2.1
                   have hC17 : Kd.F (Kd.slice 3 (Kd.int .i64)) _ _ (some ad141) l0.length l0 := (Kd.V_at (base := w.heap.size) HO_0.out).2.2
                   have hcut17 := cut_to (P := Try.prog) 28 22 .i64 Try.underlying28 hi017 (some ad141) l0.length c0 x5_1 (zo (by assumption)) q17 hroom17
                   have hr17 := Kd.F_take (m := (x5_1 : Int).toNat) hC17 (by omega)
                   have hy17 : y148.length = (x5_1 : Int).toNat := (by rw [Ny148.out, List.length_take]; omega)
                   rw [← Ny148.out] at hr17
                   rw [← hy17] at hcut17
                   have HO152 := zk (show Kd.V (Kd.slice 3 (Kd.int .i64)) 22 _ w.heap.size _ (.slice (some ad141) y148.length c0) y148 from Kd.V_mk (by omega) hr17)
                   have HC152 := zk (show y148.length ≤ c0 from by omega)
                   clear hr17 hC17 hroom17 hi017 hsz17
                   have KY17 := zk hy17
                   clear hy17
                   replace q17 := eq_true q17
                   have q18 : (x5_1 : Int) ≤ ((l0.length : Int) : Int) := zo (by assumption)
                   obtain ⟨i018, hi018, _, hsz18, _⟩ := info_parts info22
                   have hroom18 : l0.length ≤ c0 := (Kd.V_reads' HO_0.out).2.1
                   have hC18 : Kd.F (Kd.slice 3 (Kd.int .i64)) _ _ (some ad141) l0.length l0 := (Kd.V_at (base := w.heap.size) HO_0.out).2.2
                   have q018 : (0 : Int) ≤ (x5_1 : Int) := zo (by assumption)
                   have hcut18 := cut_from (P := Try.prog) 28 22 .i64 Try.underlying28 hi018 1 hsz18 (some ad141) l0.length c0 x5_1 q018 q18
                   have hr18 := Kd.F_cut (m := (x5_1 : Int).toNat) (c := c0) hC18 (by omega) hroom18
                   obtain ⟨A18, hA18⟩ : ∃ A1, A1 = (if c0 = (x5_1 : Int).toNat then (some ad141) else ((some ad141) : Option Addr).map (·.add ((x5_1 : Int).toNat * 1))) := ⟨_, rfl⟩
                   obtain ⟨c18, hc18⟩ : ∃ c1, c1 = c0 - (x5_1 : Int).toNat := ⟨_, rfl⟩
                   have hy18 : y162.length = l0.length - (x5_1 : Int).toNat := (by rw [Ny162.out, List.length_drop] <;> omega)
                   rw [show (l0).drop (x5_1 : Int).toNat = y162 from Ny162.out.symm] at hr18
                   replace hr18 : Kd.F (Kd.slice 3 (Kd.int .i64)) _ _ A18 y162.length y162 := (by rw [hA18]; exact hr18)
                   rw [← hy18, ← hA18, ← hc18] at hcut18
                   have HO166 := zk (show Kd.V (Kd.slice 3 (Kd.int .i64)) 22 _ w.heap.size _ (.slice A18 y162.length c18) y162 from Kd.V_mk (by rw [hy18, hc18]; exact Nat.sub_le_sub_right hroom18 _) hr18)
                   have HC166 := zk (show y162.length ≤ c18 from by rw [hy18, hc18]; exact Nat.sub_le_sub_right hroom18 _)
                   clear hr18 hC18 hroom18 hi018 hsz18 hc18
                   have KY18 := zk hy18
                   have KA18 := zk hA18
                   clear hy18 hA18
                   replace q18 := eq_true q18
                   refine start_ (n := 13) (S := fun w' => True) (ds := []) #[false, false, false, false, false, false, false, false, false, false, false, false, false] (by kernel_rfl) rfl rfl trivial (fun hHeld => ?_); refine with_tabW spec_l2PutOrder.tab6 spec_l2PutOrder.bits6 (fun HT_ HW_ => ?_)
                   generalize wr.drew = w16 at HO_0 HO_1 HL141_0 HL143_0 HR141_0 HR143_0 HB HO152 HO166 hHeld ⊢
                   refine pure_ (i := 1) (N := some 34) (v := ?_) (a' := ?_) #[false, true, false, false, false, false, false, false, false, false, false, false, false] rfl rfl (any_of HT_.out (by kernel_rfl)) (fun _ _ _ h => h) (Or.inl ⟨by rfl, ?_⟩) ?_ ?_
                   rotate_left
                   · intro w'
                     go_simp
                     with_reducible rfl
                   rotate_left
                   · simp only [Act.put, List.setIfInBounds_toArray, List.set_cons_zero, List.set_cons_succ, i64_w, i32_w]
                     rfl
                   refine pure_ (i := 2) (N := some 35) (v := ?_) (a' := ?_) #[false, true, true, false, false, false, false, false, false, false, false, false, false] rfl rfl (any_of HT_.out (by kernel_rfl)) (fun _ _ _ h => h) (Or.inl ⟨by rfl, ?_⟩) ?_ ?_
                   rotate_left
                   · intro w'
                     go_simp
                     with_reducible rfl
                   rotate_left
                   · simp only [Act.put, List.setIfInBounds_toArray, List.set_cons_zero, List.set_cons_succ, i64_w, i32_w]
                     rfl
                   refine pure_ (i := 3) (N := some 36) (v := ?_) (a' := ?_) #[false, true, true, true, false, false, false, false, false, false, false, false, false] rfl rfl (any_of HT_.out (by kernel_rfl)) (fun _ _ _ h => h) (Or.inl ⟨by rfl, ?_⟩) ?_ ?_
                   rotate_left
                   · intro w'
                     go_simp
                     with_reducible rfl
                   rotate_left
                   · simp only [Act.put, List.setIfInBounds_toArray, List.set_cons_zero, List.set_cons_succ, i64_w, i32_w]
                     rfl
                   refine pure_ (i := 5) (N := some 38) (v := ?_) (a' := ?_) #[false, true, true, true, false, true, false, false, false, false, false, false, false] rfl rfl (any_of HT_.out (by kernel_rfl)) (fun _ _ _ h => h) (Or.inl ⟨by rfl, ?_⟩) ?_ ?_
                   rotate_left
                   · intro w'
                     go_simp
                     with_reducible rfl
                   rotate_left
                   · simp only [Act.put, List.setIfInBounds_toArray, List.set_cons_zero, List.set_cons_succ, i64_w, i32_w]
                     rfl
                   refine pure_ (i := 8) (N := some 41) (v := ?_) (a' := ?_) #[false, true, true, true, false, true, false, false, true, false, false, false, false] rfl rfl (any_of HT_.out (by kernel_rfl)) (fun _ _ _ h => h) (Or.inl ⟨by rfl, ?_⟩) ?_ ?_
                   rotate_left
                   · intro w'
                     go_simp
                     with_reducible rfl
                   rotate_left
                   · simp only [Act.put, List.setIfInBounds_toArray, List.set_cons_zero, List.set_cons_succ, i64_w, i32_w]
                     rfl
                   refine pure_ (i := 9) (N := some 42) (v := ?_) (a' := ?_) #[false, true, true, true, false, true, false, false, true, true, false, false, false] rfl rfl (any_of HT_.out (by kernel_rfl)) (fun _ _ _ h => h) (Or.inl ⟨by rfl, ?_⟩) ?_ ?_
                   rotate_left
                   · intro w'
                     go_simp
                     with_reducible rfl
                   rotate_left
                   · simp only [Act.put, List.setIfInBounds_toArray, List.set_cons_zero, List.set_cons_succ, i64_w, i32_w]
                     rfl
                   refine pure_ (i := 10) (N := some 43) (v := ?_) (a' := ?_) #[false, true, true, true, false, true, false, false, true, true, true, false, false] rfl rfl (any_of HT_.out (by kernel_rfl)) (fun _ _ _ h => h) (Or.inl ⟨by rfl, ?_⟩) ?_ ?_
                   rotate_left
                   · intro w'
                     go_simp
                     with_reducible rfl
                   rotate_left
                   · simp only [Act.put, List.setIfInBounds_toArray, List.set_cons_zero, List.set_cons_succ, i64_w, i32_w]
                     rfl
                   refine join_ (σ := Value × Value × Value) 3 #[true, true, true, true, true, true, true, false, true, true, true, false, false] (fun s_ => [(33, s_.1), (37, s_.2.1), (39, s_.2.2)]) (fun s_ w' => (Kd.V (Kd.int .i64) 3 w' w.heap.size (fun k_ => ((P0_ k_ ∨ P1_ k_) ∨ w.heap.size ≤ k_) ∧ some k_ ≠ (s_.2.1 : Value).ownBlock ∧ some k_ ≠ (s_.2.2 : Value).ownBlock) (.slice A141_0 (rd_L2 l0 x5_1).length c141_0) (rd_L2 l0 x5_1)) ∧ (Kd.V (Kd.int .i64) 3 w' w.heap.size (fun k_ => ((P0_ k_ ∨ P1_ k_) ∨ w.heap.size ≤ k_) ∧ some k_ ≠ (s_.2.1 : Value).ownBlock ∧ some k_ ≠ (s_.2.2 : Value).ownBlock) (.slice A141_0 (rd_L2 l0 x5_1).length c141_0) (rd_L2 l0 x5_1)) ∧ (Kd.V (Kd.slice 3 (Kd.int .i64)) 22 w' w.heap.size (fun k_ => ((P0_ k_ ∨ P1_ k_) ∨ w.heap.size ≤ k_) ∧ some k_ ≠ (s_.2.1 : Value).ownBlock ∧ some k_ ≠ (s_.2.2 : Value).ownBlock) (.slice (some ad141) y148.length c0) y148) ∧ (Kd.N (Kd.slice 3 (Kd.int .i64)) 22 w' w.heap.size (fun k_ => ((P0_ k_ ∨ P1_ k_) ∨ w.heap.size ≤ k_) ∧ some k_ ≠ (s_.2.2 : Value).ownBlock) s_.2.1 y153) ∧ (Kd.N (Kd.slice 3 (Kd.int .i64)) 22 w' w.heap.size (fun k_ => ((P0_ k_ ∨ P1_ k_) ∨ w.heap.size ≤ k_) ∧ some k_ ≠ (s_.2.1 : Value).ownBlock) s_.2.2 y156) ∧ (Kd.V (Kd.slice 3 (Kd.int .i64)) 22 w' w.heap.size (fun k_ => ((P0_ k_ ∨ P1_ k_) ∨ w.heap.size ≤ k_) ∧ some k_ ≠ (s_.2.1 : Value).ownBlock ∧ some k_ ≠ (s_.2.2 : Value).ownBlock) (.slice A18 y162.length c18) y162) ∧ (Kd.V (Kd.slice 3 (Kd.int .i64)) 22 w' w.heap.size (fun k_ => ((P0_ k_ ∨ P1_ k_) ∨ w.heap.size ≤ k_) ∧ some k_ ≠ (s_.2.1 : Value).ownBlock ∧ some k_ ≠ (s_.2.2 : Value).ownBlock) (.slice (some ad141) l0.length c0) l0) ∧ (Kd.V (Kd.int .i64) 3 w' w.heap.size (fun k_ => ((P0_ k_ ∨ P1_ k_) ∨ w.heap.size ≤ k_) ∧ some k_ ≠ (s_.2.1 : Value).ownBlock ∧ some k_ ≠ (s_.2.2 : Value).ownBlock) (.slice A1 l1.length c1) l1) ∧ (Below w.heap.size w w')) ?_ ?_
                   rotate_left
                   · intro hCont
                     refine two_ (i := 0) (j := 6) (Ni := some 33) (Nj := some 39) #[true, true, true, true, false, true, false, false, true, true, true, false, false] #[false, true, true, true, false, true, true, false, true, true, true, false, false] rfl rfl rfl rfl (two_of HT_.out (by kernel_rfl)) (by decide) (by decide) (fun K hK => ?_) (fun K hK => ?_)
                     · skip
                       refine Kd.N_lit_step (Kd.slice 3 (Kd.int .i64)) _ 22 ?hg (N' := 33) ?hd (xs := ([] : List (List Int))) (inner := []) (ok := (fun k_ => ((P0_ k_ ∨ P1_ k_) ∨ w.heap.size ≤ k_))) (okp := (fun k_ => ((P0_ k_ ∨ P1_ k_) ∨ w.heap.size ≤ k_))) ?hr ?hp (fun _ hk => hk) ((show ∀ k_, w16.heap.size ≤ k_ → (fun k_ => ((P0_ k_ ∨ P1_ k_) ∨ w.heap.size ≤ k_)) k_ from fun k_ hk => (.inr (Nat.le_trans (below_size (by repeat (first | exact HB.out | apply za | apply zd | apply ze))) hk))) _ (Nat.le_refl _)) (Below.refl _ _) (Nat.le_refl _) (by simp) ?_; (case hd => rfl); (case hg => rfl); (case hr => first | (go_simp; done) | (go_simp; rfl)); (case hp => exact (Reps.none _ _))
                       intro v146 w19 ho20 hb hg_ hnew_
                       clear hg_ hnew_
                       (first | rw [← Ny145.out] at ho20 | (simp only [Int.reduceToNat] at ho20; rw [← Ny145.out] at ho20))
                       have n0_ := zk (Kd.V_elder' (by (with_reducible repeat (first | apply Kd.V_alloc | apply Kd.V_drewN | apply Kd.V_drew)); exact HO_0.out) (by first | exact Kd.N_base ho20 | exact Kd.S_base ho20 | exact Kd.R_base ho20) hb)
                       have n1_ := zk (Kd.V_elder' (by (with_reducible repeat (first | apply Kd.V_alloc | apply Kd.V_drewN | apply Kd.V_drew)); exact HO_1.out) (by first | exact Kd.N_base ho20 | exact Kd.S_base ho20 | exact Kd.R_base ho20) hb)
                       have n2_ := zk (Kd.V_elder' (by (with_reducible repeat (first | apply Kd.V_alloc | apply Kd.V_drewN | apply Kd.V_drew)); exact HL141_0.out) (by first | exact Kd.N_base ho20 | exact Kd.S_base ho20 | exact Kd.R_base ho20) hb)
                       have n3_ := zk (Kd.V_elder' (by (with_reducible repeat (first | apply Kd.V_alloc | apply Kd.V_drewN | apply Kd.V_drew)); exact HL143_0.out) (by first | exact Kd.N_base ho20 | exact Kd.S_base ho20 | exact Kd.R_base ho20) hb)
                       have n4_ := zk (Kd.V_elder' (by (with_reducible repeat (first | apply Kd.V_alloc | apply Kd.V_drewN | apply Kd.V_drew)); exact HO152.out) (by first | exact Kd.N_base ho20 | exact Kd.S_base ho20 | exact Kd.R_base ho20) hb)
                       have n5_ := zk (Kd.V_elder' (by (with_reducible repeat (first | apply Kd.V_alloc | apply Kd.V_drewN | apply Kd.V_drew)); exact HO166.out) (by first | exact Kd.N_base ho20 | exact Kd.S_base ho20 | exact Kd.R_base ho20) hb)
                       have n6_ := zk (Kd.N_lower ho20 (below_size (by repeat (first | exact HB.out | apply za | apply zd | apply ze))))
                       have n7_ := zk (Kd.C_below (by repeat (first | (with_reducible exact HR141_0.out) | (with_reducible refine zv ?_ _) | (with_reducible refine zu ?_ _) | (with_reducible refine zw ?_) | exact HR141_0.out)) hb)
                       have n8_ := zk (Kd.C_below (by repeat (first | (with_reducible exact HR143_0.out) | (with_reducible refine zv ?_ _) | (with_reducible refine zu ?_ _) | (with_reducible refine zw ?_) | exact HR143_0.out)) hb)
                       have n9_ := zk (below_step (by repeat (first | exact HB.out | apply za | apply zd | apply ze)) hb)
                       clear HO_0
                       clear HO_1
                       clear HL141_0
                       clear HL143_0
                       clear HO152
                       clear HO166
                       clear HR141_0
                       clear HR143_0
                       clear HB
                       have HO_0 := n0_
                       have HO_1 := n1_
                       have HL141_0 := n2_
                       have HL143_0 := n3_
                       have HO152 := n4_
                       have HO166 := n5_
                       have HO147 := n6_
                       have HR141_0 := n7_
                       have HR143_0 := n8_
                       have HB := n9_
                       clear n0_ n1_ n2_ n3_ n4_ n5_ n6_ n7_ n8_ n9_
                       clear hb ho20
                       refine hK.out _ _ trivial (fun hHeld => ?_)
                       clear hK K
                       refine norm_ (a' := ?_) ?_ ?_
                       rotate_left
                       · show Act.put _ (some 33) _ = _
                         simp only [Act.put, List.setIfInBounds_toArray, List.set_cons_zero, List.set_cons_succ, i64_w, i32_w]
                         rfl
                       refine two_ (i := 4) (j := 6) (Ni := some 37) (Nj := some 39) #[true, true, true, true, true, true, false, false, true, true, true, false, false] #[true, true, true, true, false, true, true, false, true, true, true, false, false] rfl rfl rfl rfl (two_of HT_.out (by kernel_rfl)) (by decide) (by decide) (fun K hK => ?_) (fun K hK => ?_)
                       · skip
                         refine Kd.N_append_rows_step (Kd.slice 3 (Kd.int .i64)) (w0 := w) w.heap.size (by rfl) (.tmp 33) (.tmp 36) 28 22 (.slice none 0 0) 24 rfl Try.underlying28 info22 rfl (by decide) (by omega) v146 y145 y148 _ _ _ (fun k_ => ((P0_ k_ ∨ P1_ k_) ∨ w.heap.size ≤ k_)) (fun k_ => ((fun k_ => ((P0_ k_ ∨ P1_ k_) ∨ w.heap.size ≤ k_))) k_ ∧ some k_ ≠ (v146 : Value).ownBlock) rfl rfl ?aO ?aR (fun _ hk => hk) ?aF ?aB ?aS ?aL ?_
                         (case aR => exact (by skip; exact Kd.V_F (by (with_reducible repeat (first | apply Kd.V_alloc | apply Kd.V_drewN | apply Kd.V_drew)); exact Kd.V_mono (ok' := (fun k_ => ((fun k_ => ((P0_ k_ ∨ P1_ k_) ∨ w.heap.size ≤ k_))) k_ ∧ some k_ ≠ (v146 : Value).ownBlock)) (HO152.out) (fun k_ hk => ⟨hk.1, hk.2⟩))))
                         (case aB => exact (by repeat (first | exact HB.out | apply za | apply zd | apply ze)))
                         (case aF => exact (fun k_ hk => (.inr (Nat.le_trans (below_size (by repeat (first | exact HB.out | apply za | apply zd | apply ze))) hk))))
                         (case aO => exact (by (with_reducible repeat (first | apply Kd.N_alloc | apply Kd.N_drewN | apply Kd.N_drew)); exact HO147.out))
                         (case aS => exact (below_size (by repeat (first | exact HB.out | apply za | apply zd | apply ze))))
                         (case aL => have := LMc11.out; omega)
                         intro v154 w21 ho hb hg hat
                         rw [← Ny153.out] at ho
                         have n0_ := zk (Kd.V_afterv (ok := (fun k_ => ((P0_ k_ ∨ P1_ k_) ∨ w.heap.size ≤ k_))) (by (with_reducible repeat (first | apply Kd.V_alloc | apply Kd.V_drewN | apply Kd.V_drew)); exact HO_0.out) hg hat)
                         have n1_ := zk (Kd.V_afterv (ok := (fun k_ => ((P0_ k_ ∨ P1_ k_) ∨ w.heap.size ≤ k_))) (by (with_reducible repeat (first | apply Kd.V_alloc | apply Kd.V_drewN | apply Kd.V_drew)); exact HO_1.out) hg hat)
                         have n2_ := zk (Kd.V_afterv (ok := (fun k_ => ((P0_ k_ ∨ P1_ k_) ∨ w.heap.size ≤ k_))) (by (with_reducible repeat (first | apply Kd.V_alloc | apply Kd.V_drewN | apply Kd.V_drew)); exact HL141_0.out) hg hat)
                         have n3_ := zk (Kd.V_afterv (ok := (fun k_ => ((P0_ k_ ∨ P1_ k_) ∨ w.heap.size ≤ k_))) (by (with_reducible repeat (first | apply Kd.V_alloc | apply Kd.V_drewN | apply Kd.V_drew)); exact HL143_0.out) hg hat)
                         have n4_ := zk (Kd.V_afterv (ok := (fun k_ => ((P0_ k_ ∨ P1_ k_) ∨ w.heap.size ≤ k_))) (by (with_reducible repeat (first | apply Kd.V_alloc | apply Kd.V_drewN | apply Kd.V_drew)); exact HO152.out) hg hat)
                         have n5_ := zk (Kd.V_afterv (ok := (fun k_ => ((P0_ k_ ∨ P1_ k_) ∨ w.heap.size ≤ k_))) (by (with_reducible repeat (first | apply Kd.V_alloc | apply Kd.V_drewN | apply Kd.V_drew)); exact HO166.out) hg hat)
                         have n6_ := zk (hb)
                         have n7_ := zk (ho)
                         clear HO_0
                         clear HO_1
                         clear HL141_0
                         clear HL143_0
                         clear HO152
                         clear HO166
                         clear HB
                         clear HO147
                         have HO_0 := n0_
                         have HO_1 := n1_
                         have HL141_0 := n2_
                         have HL143_0 := n3_
                         have HO152 := n4_
                         have HO166 := n5_
                         have HB := n6_
                         have HO155 := n7_
                         clear n0_ n1_ n2_ n3_ n4_ n5_ n6_ n7_
                         clear ho hb hg hat
                         refine hK.out _ _ trivial (fun hHeld => ?_)
                         clear hK K
                         refine norm_ (a' := ?_) ?_ ?_
                         rotate_left
                         · show Act.put _ (some 37) _ = _
                           simp only [Act.put, List.setIfInBounds_toArray, List.set_cons_zero, List.set_cons_succ, i64_w, i32_w]
                           rfl
                         refine one_ (i := 6) (N := some 39) #[true, true, true, true, true, true, true, false, true, true, true, false, false] rfl rfl (one_of HT_.out (by kernel_rfl)) (by decide) (fun K hK => ?_)
                         refine Kd.N_lit_step (Kd.slice 3 (Kd.int .i64)) _ 22 ?hg (N' := 39) ?hd (xs := ([l1] : List (List Int))) (inner := [.slice A1 l1.length c1]) (ok := (fun k_ => ((P0_ k_ ∨ P1_ k_) ∨ w.heap.size ≤ k_) ∧ some k_ ≠ (v154 : Value).ownBlock)) (okp := (fun k_ => ((P0_ k_ ∨ P1_ k_) ∨ w.heap.size ≤ k_) ∧ some k_ ≠ (v154 : Value).ownBlock)) ?hr ?hp (fun _ hk => hk) ((show ∀ k_, w21.heap.size ≤ k_ → (fun k_ => ((P0_ k_ ∨ P1_ k_) ∨ w.heap.size ≤ k_) ∧ some k_ ≠ (v154 : Value).ownBlock) k_ from fun k_ hk => ⟨(.inr (Nat.le_trans (below_size (by repeat (first | exact HB.out | apply za | apply zd | apply ze))) hk)), Kd.fresh' (Kd.N_lt (by (with_reducible repeat (first | apply Kd.N_alloc | apply Kd.N_drewN | apply Kd.N_drew)); exact HO155.out)) k_ hk⟩) _ (Nat.le_refl _)) (Below.refl _ _) (Nat.le_refl _) (by simp) ?_; (case hd => rfl); (case hg => rfl); (case hr => first | (go_simp; done) | (go_simp; rfl)); (case hp => exact (Reps.one (show Kd.FK (Kd.slice 3 (Kd.int .i64)) _ _ l1 [.slice A1 l1.length c1] from (Kd.FK_slice_mk (Kd.V_reads' (Kd.V_mono (ok' := (fun k_ => ((P0_ k_ ∨ P1_ k_) ∨ w.heap.size ≤ k_) ∧ some k_ ≠ (v154 : Value).ownBlock)) (HO_1.out) (fun k_ hk => ⟨hk.1, hk.2⟩))).2.1 (Kd.V_F (by (with_reducible repeat (first | apply Kd.V_alloc | apply Kd.V_drewN | apply Kd.V_drew)); exact Kd.V_mono (ok' := (fun k_ => ((P0_ k_ ∨ P1_ k_) ∨ w.heap.size ≤ k_) ∧ some k_ ≠ (v154 : Value).ownBlock)) (HO_1.out) (fun k_ hk => ⟨hk.1, hk.2⟩))))) (Reps.none _ _)))
                         intro v157 w22 ho23 hb hg_ hnew_
                         clear hg_ hnew_
                         (first | rw [← Ny156.out] at ho23 | (simp only [Int.reduceToNat] at ho23; rw [← Ny156.out] at ho23))
                         have n0_ := zk (Kd.V_elder' (by (with_reducible repeat (first | apply Kd.V_alloc | apply Kd.V_drewN | apply Kd.V_drew)); exact HO_0.out) (by first | exact Kd.N_base ho23 | exact Kd.S_base ho23 | exact Kd.R_base ho23) hb)
                         have n1_ := zk (Kd.V_elder' (by (with_reducible repeat (first | apply Kd.V_alloc | apply Kd.V_drewN | apply Kd.V_drew)); exact HO_1.out) (by first | exact Kd.N_base ho23 | exact Kd.S_base ho23 | exact Kd.R_base ho23) hb)
                         have n2_ := zk (Kd.V_elder' (by (with_reducible repeat (first | apply Kd.V_alloc | apply Kd.V_drewN | apply Kd.V_drew)); exact HL141_0.out) (by first | exact Kd.N_base ho23 | exact Kd.S_base ho23 | exact Kd.R_base ho23) hb)
                         have n3_ := zk (Kd.V_elder' (by (with_reducible repeat (first | apply Kd.V_alloc | apply Kd.V_drewN | apply Kd.V_drew)); exact HL143_0.out) (by first | exact Kd.N_base ho23 | exact Kd.S_base ho23 | exact Kd.R_base ho23) hb)
                         have n4_ := zk (Kd.V_elder' (by (with_reducible repeat (first | apply Kd.V_alloc | apply Kd.V_drewN | apply Kd.V_drew)); exact HO152.out) (by first | exact Kd.N_base ho23 | exact Kd.S_base ho23 | exact Kd.R_base ho23) hb)
                         have n5_ := zk (Kd.V_elder' (by (with_reducible repeat (first | apply Kd.V_alloc | apply Kd.V_drewN | apply Kd.V_drew)); exact HO166.out) (by first | exact Kd.N_base ho23 | exact Kd.S_base ho23 | exact Kd.R_base ho23) hb)
                         have n6_ := zk (Kd.N_elder' (by (with_reducible repeat (first | apply Kd.N_alloc | apply Kd.N_drewN | apply Kd.N_drew)); exact HO155.out) (by first | exact Kd.N_base ho23 | exact Kd.S_base ho23 | exact Kd.R_base ho23) hb)
                         have n7_ := zk (Kd.N_lower ho23 (below_size (by repeat (first | exact HB.out | apply za | apply zd | apply ze))))
                         have n8_ := zk (below_step (by repeat (first | exact HB.out | apply za | apply zd | apply ze)) hb)
                         clear HO_0
                         clear HO_1
                         clear HL141_0
                         clear HL143_0
                         clear HO152
                         clear HO166
                         clear HO155
                         clear HB
                         have HO_0 := n0_
                         have HO_1 := n1_
                         have HL141_0 := n2_
                         have HL143_0 := n3_
                         have HO152 := n4_
                         have HO166 := n5_
                         have HO155 := n6_
                         have HO158 := n7_
                         have HB := n8_
                         clear n0_ n1_ n2_ n3_ n4_ n5_ n6_ n7_ n8_
                         clear hb ho23
                         refine hK.out _ _ trivial (fun hHeld => ?_)
                         clear hK K
                         refine norm_ (a' := ?_) ?_ ?_
                         rotate_left
                         · show Act.put _ (some 39) _ = _
                           simp only [Act.put, List.setIfInBounds_toArray, List.set_cons_zero, List.set_cons_succ, i64_w, i32_w]
                           rfl
                         exact norm_ (by simp only [putAll, Act.put, List.setIfInBounds_toArray, List.set_cons_zero, List.set_cons_succ]) (hCont (v146, v154, v157) _ ⟨(by (with_reducible repeat (first | apply Kd.V_alloc | apply Kd.V_drewN | apply Kd.V_drew)); exact Kd.V_mono HL141_0.out (fun _ hk => ⟨hk.1.1, ⟨hk.1.2, hk.2⟩⟩)), (by (with_reducible repeat (first | apply Kd.V_alloc | apply Kd.V_drewN | apply Kd.V_drew)); exact Kd.V_mono HL143_0.out (fun _ hk => ⟨hk.1.1, ⟨hk.1.2, hk.2⟩⟩)), (by (with_reducible repeat (first | apply Kd.V_alloc | apply Kd.V_drewN | apply Kd.V_drew)); exact Kd.V_mono HO152.out (fun _ hk => ⟨hk.1.1, ⟨hk.1.2, hk.2⟩⟩)), (by (with_reducible repeat (first | apply Kd.N_alloc | apply Kd.N_drewN | apply Kd.N_drew)); exact HO155.out), (by (with_reducible repeat (first | apply Kd.N_alloc | apply Kd.N_drewN | apply Kd.N_drew)); exact HO158.out), (by (with_reducible repeat (first | apply Kd.V_alloc | apply Kd.V_drewN | apply Kd.V_drew)); exact Kd.V_mono HO166.out (fun _ hk => ⟨hk.1.1, ⟨hk.1.2, hk.2⟩⟩)), (by (with_reducible repeat (first | apply Kd.V_alloc | apply Kd.V_drewN | apply Kd.V_drew)); exact Kd.V_mono HO_0.out (fun _ hk => ⟨hk.1.1, ⟨hk.1.2, hk.2⟩⟩)), (by (with_reducible repeat (first | apply Kd.V_alloc | apply Kd.V_drewN | apply Kd.V_drew)); exact Kd.V_mono HO_1.out (fun _ hk => ⟨hk.1.1, ⟨hk.1.2, hk.2⟩⟩)), (by repeat (first | exact HB.out | apply za | apply zd | apply ze))⟩)
                       · skip
                         refine Kd.N_lit_step (Kd.slice 3 (Kd.int .i64)) _ 22 ?hg (N' := 39) ?hd (xs := ([l1] : List (List Int))) (inner := [.slice A1 l1.length c1]) (ok := (fun k_ => ((P0_ k_ ∨ P1_ k_) ∨ w.heap.size ≤ k_) ∧ some k_ ≠ (v146 : Value).ownBlock)) (okp := (fun k_ => ((P0_ k_ ∨ P1_ k_) ∨ w.heap.size ≤ k_) ∧ some k_ ≠ (v146 : Value).ownBlock)) ?hr ?hp (fun _ hk => hk) ((show ∀ k_, w19.heap.size ≤ k_ → (fun k_ => ((P0_ k_ ∨ P1_ k_) ∨ w.heap.size ≤ k_) ∧ some k_ ≠ (v146 : Value).ownBlock) k_ from fun k_ hk => ⟨(.inr (Nat.le_trans (below_size (by repeat (first | exact HB.out | apply za | apply zd | apply ze))) hk)), Kd.fresh' (Kd.N_lt (by (with_reducible repeat (first | apply Kd.N_alloc | apply Kd.N_drewN | apply Kd.N_drew)); exact HO147.out)) k_ hk⟩) _ (Nat.le_refl _)) (Below.refl _ _) (Nat.le_refl _) (by simp) ?_; (case hd => rfl); (case hg => rfl); (case hr => first | (go_simp; done) | (go_simp; rfl)); (case hp => exact (Reps.one (show Kd.FK (Kd.slice 3 (Kd.int .i64)) _ _ l1 [.slice A1 l1.length c1] from (Kd.FK_slice_mk (Kd.V_reads' (Kd.V_mono (ok' := (fun k_ => ((P0_ k_ ∨ P1_ k_) ∨ w.heap.size ≤ k_) ∧ some k_ ≠ (v146 : Value).ownBlock)) (HO_1.out) (fun k_ hk => ⟨hk.1, hk.2⟩))).2.1 (Kd.V_F (by (with_reducible repeat (first | apply Kd.V_alloc | apply Kd.V_drewN | apply Kd.V_drew)); exact Kd.V_mono (ok' := (fun k_ => ((P0_ k_ ∨ P1_ k_) ∨ w.heap.size ≤ k_) ∧ some k_ ≠ (v146 : Value).ownBlock)) (HO_1.out) (fun k_ hk => ⟨hk.1, hk.2⟩))))) (Reps.none _ _)))
                         intro v157 w21 ho22 hb hg_ hnew_
                         clear hg_ hnew_
                         (first | rw [← Ny156.out] at ho22 | (simp only [Int.reduceToNat] at ho22; rw [← Ny156.out] at ho22))
                         have n0_ := zk (Kd.V_elder' (by (with_reducible repeat (first | apply Kd.V_alloc | apply Kd.V_drewN | apply Kd.V_drew)); exact HO_0.out) (by first | exact Kd.N_base ho22 | exact Kd.S_base ho22 | exact Kd.R_base ho22) hb)
                         have n1_ := zk (Kd.V_elder' (by (with_reducible repeat (first | apply Kd.V_alloc | apply Kd.V_drewN | apply Kd.V_drew)); exact HO_1.out) (by first | exact Kd.N_base ho22 | exact Kd.S_base ho22 | exact Kd.R_base ho22) hb)
                         have n2_ := zk (Kd.V_elder' (by (with_reducible repeat (first | apply Kd.V_alloc | apply Kd.V_drewN | apply Kd.V_drew)); exact HL141_0.out) (by first | exact Kd.N_base ho22 | exact Kd.S_base ho22 | exact Kd.R_base ho22) hb)
                         have n3_ := zk (Kd.V_elder' (by (with_reducible repeat (first | apply Kd.V_alloc | apply Kd.V_drewN | apply Kd.V_drew)); exact HL143_0.out) (by first | exact Kd.N_base ho22 | exact Kd.S_base ho22 | exact Kd.R_base ho22) hb)
                         have n4_ := zk (Kd.V_elder' (by (with_reducible repeat (first | apply Kd.V_alloc | apply Kd.V_drewN | apply Kd.V_drew)); exact HO152.out) (by first | exact Kd.N_base ho22 | exact Kd.S_base ho22 | exact Kd.R_base ho22) hb)
                         have n5_ := zk (Kd.V_elder' (by (with_reducible repeat (first | apply Kd.V_alloc | apply Kd.V_drewN | apply Kd.V_drew)); exact HO166.out) (by first | exact Kd.N_base ho22 | exact Kd.S_base ho22 | exact Kd.R_base ho22) hb)
                         have n6_ := zk (Kd.N_elder' (by (with_reducible repeat (first | apply Kd.N_alloc | apply Kd.N_drewN | apply Kd.N_drew)); exact HO147.out) (by first | exact Kd.N_base ho22 | exact Kd.S_base ho22 | exact Kd.R_base ho22) hb)
                         have n7_ := zk (Kd.N_lower ho22 (below_size (by repeat (first | exact HB.out | apply za | apply zd | apply ze))))
                         have n8_ := zk (Kd.C_below (by repeat (first | (with_reducible exact HR141_0.out) | (with_reducible refine zv ?_ _) | (with_reducible refine zu ?_ _) | (with_reducible refine zw ?_) | exact HR141_0.out)) hb)
                         have n9_ := zk (Kd.C_below (by repeat (first | (with_reducible exact HR143_0.out) | (with_reducible refine zv ?_ _) | (with_reducible refine zu ?_ _) | (with_reducible refine zw ?_) | exact HR143_0.out)) hb)
                         have n10_ := zk (below_step (by repeat (first | exact HB.out | apply za | apply zd | apply ze)) hb)
                         clear HO_0
                         clear HO_1
                         clear HL141_0
                         clear HL143_0
                         clear HO152
                         clear HO166
                         clear HO147
                         clear HR141_0
                         clear HR143_0
                         clear HB
                         have HO_0 := n0_
                         have HO_1 := n1_
                         have HL141_0 := n2_
                         have HL143_0 := n3_
                         have HO152 := n4_
                         have HO166 := n5_
                         have HO147 := n6_
                         have HO158 := n7_
                         have HR141_0 := n8_
                         have HR143_0 := n9_
                         have HB := n10_
                         clear n0_ n1_ n2_ n3_ n4_ n5_ n6_ n7_ n8_ n9_ n10_
                         clear hb ho22
                         refine hK.out _ _ trivial (fun hHeld => ?_)
                         clear hK K
                         refine norm_ (a' := ?_) ?_ ?_
                         rotate_left
                         · show Act.put _ (some 39) _ = _
                           simp only [Act.put, List.setIfInBounds_toArray, List.set_cons_zero, List.set_cons_succ, i64_w, i32_w]
                           rfl
                         refine one_ (i := 4) (N := some 37) #[true, true, true, true, true, true, true, false, true, true, true, false, false] rfl rfl (one_of HT_.out (by kernel_rfl)) (by decide) (fun K hK => ?_)
                         refine Kd.N_append_rows_step (Kd.slice 3 (Kd.int .i64)) (w0 := w) w.heap.size (by rfl) (.tmp 33) (.tmp 36) 28 22 (.slice none 0 0) 24 rfl Try.underlying28 info22 rfl (by decide) (by omega) v146 y145 y148 _ _ _ (fun k_ => ((P0_ k_ ∨ P1_ k_) ∨ w.heap.size ≤ k_) ∧ some k_ ≠ (v157 : Value).ownBlock) (fun k_ => ((fun k_ => ((P0_ k_ ∨ P1_ k_) ∨ w.heap.size ≤ k_) ∧ some k_ ≠ (v157 : Value).ownBlock)) k_ ∧ some k_ ≠ (v146 : Value).ownBlock) rfl rfl ?aO ?aR (fun _ hk => hk) ?aF ?aB ?aS ?aL ?_
                         (case aR => exact (by skip; exact Kd.V_F (by (with_reducible repeat (first | apply Kd.V_alloc | apply Kd.V_drewN | apply Kd.V_drew)); exact Kd.V_mono (ok' := (fun k_ => ((fun k_ => ((P0_ k_ ∨ P1_ k_) ∨ w.heap.size ≤ k_) ∧ some k_ ≠ (v157 : Value).ownBlock)) k_ ∧ some k_ ≠ (v146 : Value).ownBlock)) (HO152.out) (fun k_ hk => ⟨⟨hk.1.1, hk.2⟩, hk.1.2⟩))))
                         (case aB => exact (by repeat (first | exact HB.out | apply za | apply zd | apply ze)))
                         (case aF => exact (fun k_ hk => ⟨(.inr (Nat.le_trans (below_size (by repeat (first | exact HB.out | apply za | apply zd | apply ze))) hk)), Kd.fresh' (Kd.N_lt (by (with_reducible repeat (first | apply Kd.N_alloc | apply Kd.N_drewN | apply Kd.N_drew)); exact HO158.out)) k_ hk⟩))
                         (case aO => exact (by (with_reducible repeat (first | apply Kd.N_alloc | apply Kd.N_drewN | apply Kd.N_drew)); exact HO147.out))
                         (case aS => exact (below_size (by repeat (first | exact HB.out | apply za | apply zd | apply ze))))
                         (case aL => have := LMc11.out; omega)
                         intro v154 w23 ho hb hg hat
                         rw [← Ny153.out] at ho
                         have n0_ := zk (Kd.V_afterv (ok := (fun k_ => ((P0_ k_ ∨ P1_ k_) ∨ w.heap.size ≤ k_) ∧ some k_ ≠ (v157 : Value).ownBlock)) (by (with_reducible repeat (first | apply Kd.V_alloc | apply Kd.V_drewN | apply Kd.V_drew)); first | exact Kd.V_mono HO_0.out (fun _ hk => ⟨⟨hk.1.1, hk.2⟩, hk.1.2⟩) | exact Kd.V_mono HO_0.out (fun k_ hk => by (have own_ : ∀ (A : Option Addr) (n c : Nat), (Value.slice A n c).ownBlock = A.map Addr.block := fun A n c => by cases A <;> rfl); simp only [own_] at hk ⊢; exact ⟨⟨hk.1.1, hk.2⟩, hk.1.2⟩)) hg hat)
                         have n1_ := zk (Kd.V_afterv (ok := (fun k_ => ((P0_ k_ ∨ P1_ k_) ∨ w.heap.size ≤ k_) ∧ some k_ ≠ (v157 : Value).ownBlock)) (by (with_reducible repeat (first | apply Kd.V_alloc | apply Kd.V_drewN | apply Kd.V_drew)); first | exact Kd.V_mono HO_1.out (fun _ hk => ⟨⟨hk.1.1, hk.2⟩, hk.1.2⟩) | exact Kd.V_mono HO_1.out (fun k_ hk => by (have own_ : ∀ (A : Option Addr) (n c : Nat), (Value.slice A n c).ownBlock = A.map Addr.block := fun A n c => by cases A <;> rfl); simp only [own_] at hk ⊢; exact ⟨⟨hk.1.1, hk.2⟩, hk.1.2⟩)) hg hat)
                         have n2_ := zk (Kd.V_afterv (ok := (fun k_ => ((P0_ k_ ∨ P1_ k_) ∨ w.heap.size ≤ k_) ∧ some k_ ≠ (v157 : Value).ownBlock)) (by (with_reducible repeat (first | apply Kd.V_alloc | apply Kd.V_drewN | apply Kd.V_drew)); exact Kd.V_mono HL141_0.out (fun _ hk => ⟨⟨hk.1.1, hk.2⟩, hk.1.2⟩)) hg hat)
                         have n3_ := zk (Kd.V_afterv (ok := (fun k_ => ((P0_ k_ ∨ P1_ k_) ∨ w.heap.size ≤ k_) ∧ some k_ ≠ (v157 : Value).ownBlock)) (by (with_reducible repeat (first | apply Kd.V_alloc | apply Kd.V_drewN | apply Kd.V_drew)); exact Kd.V_mono HL143_0.out (fun _ hk => ⟨⟨hk.1.1, hk.2⟩, hk.1.2⟩)) hg hat)
                         have n4_ := zk (Kd.V_afterv (ok := (fun k_ => ((P0_ k_ ∨ P1_ k_) ∨ w.heap.size ≤ k_) ∧ some k_ ≠ (v157 : Value).ownBlock)) (by (with_reducible repeat (first | apply Kd.V_alloc | apply Kd.V_drewN | apply Kd.V_drew)); first | exact Kd.V_mono HO152.out (fun _ hk => ⟨⟨hk.1.1, hk.2⟩, hk.1.2⟩) | exact Kd.V_mono HO152.out (fun k_ hk => by (have own_ : ∀ (A : Option Addr) (n c : Nat), (Value.slice A n c).ownBlock = A.map Addr.block := fun A n c => by cases A <;> rfl); simp only [own_] at hk ⊢; exact ⟨⟨hk.1.1, hk.2⟩, hk.1.2⟩)) hg hat)
                         have n5_ := zk (Kd.V_afterv (ok := (fun k_ => ((P0_ k_ ∨ P1_ k_) ∨ w.heap.size ≤ k_) ∧ some k_ ≠ (v157 : Value).ownBlock)) (by (with_reducible repeat (first | apply Kd.V_alloc | apply Kd.V_drewN | apply Kd.V_drew)); first | exact Kd.V_mono HO166.out (fun _ hk => ⟨⟨hk.1.1, hk.2⟩, hk.1.2⟩) | exact Kd.V_mono HO166.out (fun k_ hk => by (have own_ : ∀ (A : Option Addr) (n c : Nat), (Value.slice A n c).ownBlock = A.map Addr.block := fun A n c => by cases A <;> rfl); simp only [own_] at hk ⊢; exact ⟨⟨hk.1.1, hk.2⟩, hk.1.2⟩)) hg hat)
                         have n6_ := zk (Kd.N_afterv (ok := (fun k_ => ((P0_ k_ ∨ P1_ k_) ∨ w.heap.size ≤ k_))) (by (with_reducible repeat (first | apply Kd.N_alloc | apply Kd.N_drewN | apply Kd.N_drew)); exact HO158.out) hg hat)
                         have n7_ := zk (hb)
                         have n8_ := zk (ho)
                         clear HO_0
                         clear HO_1
                         clear HL141_0
                         clear HL143_0
                         clear HO152
                         clear HO166
                         clear HO158
                         clear HB
                         clear HO147
                         have HO_0 := n0_
                         have HO_1 := n1_
                         have HL141_0 := n2_
                         have HL143_0 := n3_
                         have HO152 := n4_
                         have HO166 := n5_
                         have HO158 := n6_
                         have HB := n7_
                         have HO155 := n8_
                         clear n0_ n1_ n2_ n3_ n4_ n5_ n6_ n7_ n8_
                         clear ho hb hg hat
                         refine hK.out _ _ trivial (fun hHeld => ?_)
                         clear hK K
                         refine norm_ (a' := ?_) ?_ ?_
                         rotate_left
                         · show Act.put _ (some 37) _ = _
                           simp only [Act.put, List.setIfInBounds_toArray, List.set_cons_zero, List.set_cons_succ, i64_w, i32_w]
                           rfl
                         exact norm_ (by simp only [putAll, Act.put, List.setIfInBounds_toArray, List.set_cons_zero, List.set_cons_succ]) (hCont (v146, v154, v157) _ ⟨(by (with_reducible repeat (first | apply Kd.V_alloc | apply Kd.V_drewN | apply Kd.V_drew)); exact Kd.V_mono HL141_0.out (fun _ hk => ⟨hk.1.1, ⟨hk.2, hk.1.2⟩⟩)), (by (with_reducible repeat (first | apply Kd.V_alloc | apply Kd.V_drewN | apply Kd.V_drew)); exact Kd.V_mono HL143_0.out (fun _ hk => ⟨hk.1.1, ⟨hk.2, hk.1.2⟩⟩)), (by (with_reducible repeat (first | apply Kd.V_alloc | apply Kd.V_drewN | apply Kd.V_drew)); exact Kd.V_mono HO152.out (fun _ hk => ⟨hk.1.1, ⟨hk.2, hk.1.2⟩⟩)), (by (with_reducible repeat (first | apply Kd.N_alloc | apply Kd.N_drewN | apply Kd.N_drew)); exact HO155.out), (by (with_reducible repeat (first | apply Kd.N_alloc | apply Kd.N_drewN | apply Kd.N_drew)); exact HO158.out), (by (with_reducible repeat (first | apply Kd.V_alloc | apply Kd.V_drewN | apply Kd.V_drew)); exact Kd.V_mono HO166.out (fun _ hk => ⟨hk.1.1, ⟨hk.2, hk.1.2⟩⟩)), (by (with_reducible repeat (first | apply Kd.V_alloc | apply Kd.V_drewN | apply Kd.V_drew)); exact Kd.V_mono HO_0.out (fun _ hk => ⟨hk.1.1, ⟨hk.2, hk.1.2⟩⟩)), (by (with_reducible repeat (first | apply Kd.V_alloc | apply Kd.V_drewN | apply Kd.V_drew)); exact Kd.V_mono HO_1.out (fun _ hk => ⟨hk.1.1, ⟨hk.2, hk.1.2⟩⟩)), (by repeat (first | exact HB.out | apply za | apply zd | apply ze))⟩)
                     · skip
                       refine Kd.N_lit_step (Kd.slice 3 (Kd.int .i64)) _ 22 ?hg (N' := 39) ?hd (xs := ([l1] : List (List Int))) (inner := [.slice A1 l1.length c1]) (ok := (fun k_ => ((P0_ k_ ∨ P1_ k_) ∨ w.heap.size ≤ k_))) (okp := (fun k_ => ((P0_ k_ ∨ P1_ k_) ∨ w.heap.size ≤ k_))) ?hr ?hp (fun _ hk => hk) ((show ∀ k_, w16.heap.size ≤ k_ → (fun k_ => ((P0_ k_ ∨ P1_ k_) ∨ w.heap.size ≤ k_)) k_ from fun k_ hk => (.inr (Nat.le_trans (below_size (by repeat (first | exact HB.out | apply za | apply zd | apply ze))) hk))) _ (Nat.le_refl _)) (Below.refl _ _) (Nat.le_refl _) (by simp) ?_; (case hd => rfl); (case hg => rfl); (case hr => first | (go_simp; done) | (go_simp; rfl)); (case hp => exact (Reps.one (show Kd.FK (Kd.slice 3 (Kd.int .i64)) _ _ l1 [.slice A1 l1.length c1] from (Kd.FK_slice_mk (Kd.V_reads' (Kd.V_mono (ok' := (fun k_ => ((P0_ k_ ∨ P1_ k_) ∨ w.heap.size ≤ k_))) (HO_1.out) (fun k_ hk => hk))).2.1 (Kd.V_F (by (with_reducible repeat (first | apply Kd.V_alloc | apply Kd.V_drewN | apply Kd.V_drew)); exact Kd.V_mono (ok' := (fun k_ => ((P0_ k_ ∨ P1_ k_) ∨ w.heap.size ≤ k_))) (HO_1.out) (fun k_ hk => hk))))) (Reps.none _ _)))
                       intro v157 w19 ho20 hb hg_ hnew_
                       clear hg_ hnew_
                       (first | rw [← Ny156.out] at ho20 | (simp only [Int.reduceToNat] at ho20; rw [← Ny156.out] at ho20))
                       have n0_ := zk (Kd.V_elder' (by (with_reducible repeat (first | apply Kd.V_alloc | apply Kd.V_drewN | apply Kd.V_drew)); exact HO_0.out) (by first | exact Kd.N_base ho20 | exact Kd.S_base ho20 | exact Kd.R_base ho20) hb)
                       have n1_ := zk (Kd.V_elder' (by (with_reducible repeat (first | apply Kd.V_alloc | apply Kd.V_drewN | apply Kd.V_drew)); exact HO_1.out) (by first | exact Kd.N_base ho20 | exact Kd.S_base ho20 | exact Kd.R_base ho20) hb)
                       have n2_ := zk (Kd.V_elder' (by (with_reducible repeat (first | apply Kd.V_alloc | apply Kd.V_drewN | apply Kd.V_drew)); exact HL141_0.out) (by first | exact Kd.N_base ho20 | exact Kd.S_base ho20 | exact Kd.R_base ho20) hb)
                       have n3_ := zk (Kd.V_elder' (by (with_reducible repeat (first | apply Kd.V_alloc | apply Kd.V_drewN | apply Kd.V_drew)); exact HL143_0.out) (by first | exact Kd.N_base ho20 | exact Kd.S_base ho20 | exact Kd.R_base ho20) hb)
                       have n4_ := zk (Kd.V_elder' (by (with_reducible repeat (first | apply Kd.V_alloc | apply Kd.V_drewN | apply Kd.V_drew)); exact HO152.out) (by first | exact Kd.N_base ho20 | exact Kd.S_base ho20 | exact Kd.R_base ho20) hb)
                       have n5_ := zk (Kd.V_elder' (by (with_reducible repeat (first | apply Kd.V_alloc | apply Kd.V_drewN | apply Kd.V_drew)); exact HO166.out) (by first | exact Kd.N_base ho20 | exact Kd.S_base ho20 | exact Kd.R_base ho20) hb)
                       have n6_ := zk (Kd.N_lower ho20 (below_size (by repeat (first | exact HB.out | apply za | apply zd | apply ze))))
                       have n7_ := zk (Kd.C_below (by repeat (first | (with_reducible exact HR141_0.out) | (with_reducible refine zv ?_ _) | (with_reducible refine zu ?_ _) | (with_reducible refine zw ?_) | exact HR141_0.out)) hb)
                       have n8_ := zk (Kd.C_below (by repeat (first | (with_reducible exact HR143_0.out) | (with_reducible refine zv ?_ _) | (with_reducible refine zu ?_ _) | (with_reducible refine zw ?_) | exact HR143_0.out)) hb)
                       have n9_ := zk (below_step (by repeat (first | exact HB.out | apply za | apply zd | apply ze)) hb)
                       clear HO_0
                       clear HO_1
                       clear HL141_0
                       clear HL143_0
                       clear HO152
                       clear HO166
                       clear HR141_0
                       clear HR143_0
                       clear HB
                       have HO_0 := n0_
                       have HO_1 := n1_
                       have HL141_0 := n2_
                       have HL143_0 := n3_
                       have HO152 := n4_
                       have HO166 := n5_
                       have HO158 := n6_
                       have HR141_0 := n7_
                       have HR143_0 := n8_
                       have HB := n9_
                       clear n0_ n1_ n2_ n3_ n4_ n5_ n6_ n7_ n8_ n9_
                       clear hb ho20
                       refine hK.out _ _ trivial (fun hHeld => ?_)
                       clear hK K
                       refine norm_ (a' := ?_) ?_ ?_
                       rotate_left
                       · show Act.put _ (some 39) _ = _
                         simp only [Act.put, List.setIfInBounds_toArray, List.set_cons_zero, List.set_cons_succ, i64_w, i32_w]
                         rfl
                       refine one_ (i := 0) (N := some 33) #[true, true, true, true, false, true, true, false, true, true, true, false, false] rfl rfl (one_of HT_.out (by kernel_rfl)) (by decide) (fun K hK => ?_)
                       refine Kd.N_lit_step (Kd.slice 3 (Kd.int .i64)) _ 22 ?hg (N' := 33) ?hd (xs := ([] : List (List Int))) (inner := []) (ok := (fun k_ => ((P0_ k_ ∨ P1_ k_) ∨ w.heap.size ≤ k_) ∧ some k_ ≠ (v157 : Value).ownBlock)) (okp := (fun k_ => ((P0_ k_ ∨ P1_ k_) ∨ w.heap.size ≤ k_) ∧ some k_ ≠ (v157 : Value).ownBlock)) ?hr ?hp (fun _ hk => hk) ((show ∀ k_, w19.heap.size ≤ k_ → (fun k_ => ((P0_ k_ ∨ P1_ k_) ∨ w.heap.size ≤ k_) ∧ some k_ ≠ (v157 : Value).ownBlock) k_ from fun k_ hk => ⟨(.inr (Nat.le_trans (below_size (by repeat (first | exact HB.out | apply za | apply zd | apply ze))) hk)), Kd.fresh' (Kd.N_lt (by (with_reducible repeat (first | apply Kd.N_alloc | apply Kd.N_drewN | apply Kd.N_drew)); exact HO158.out)) k_ hk⟩) _ (Nat.le_refl _)) (Below.refl _ _) (Nat.le_refl _) (by simp) ?_; (case hd => rfl); (case hg => rfl); (case hr => first | (go_simp; done) | (go_simp; rfl)); (case hp => exact (Reps.none _ _))
                       intro v146 w21 ho22 hb hg_ hnew_
                       clear hg_ hnew_
                       (first | rw [← Ny145.out] at ho22 | (simp only [Int.reduceToNat] at ho22; rw [← Ny145.out] at ho22))
                       have n0_ := zk (Kd.V_elder' (by (with_reducible repeat (first | apply Kd.V_alloc | apply Kd.V_drewN | apply Kd.V_drew)); exact HO_0.out) (by first | exact Kd.N_base ho22 | exact Kd.S_base ho22 | exact Kd.R_base ho22) hb)
                       have n1_ := zk (Kd.V_elder' (by (with_reducible repeat (first | apply Kd.V_alloc | apply Kd.V_drewN | apply Kd.V_drew)); exact HO_1.out) (by first | exact Kd.N_base ho22 | exact Kd.S_base ho22 | exact Kd.R_base ho22) hb)
                       have n2_ := zk (Kd.V_elder' (by (with_reducible repeat (first | apply Kd.V_alloc | apply Kd.V_drewN | apply Kd.V_drew)); exact HL141_0.out) (by first | exact Kd.N_base ho22 | exact Kd.S_base ho22 | exact Kd.R_base ho22) hb)
                       have n3_ := zk (Kd.V_elder' (by (with_reducible repeat (first | apply Kd.V_alloc | apply Kd.V_drewN | apply Kd.V_drew)); exact HL143_0.out) (by first | exact Kd.N_base ho22 | exact Kd.S_base ho22 | exact Kd.R_base ho22) hb)
                       have n4_ := zk (Kd.V_elder' (by (with_reducible repeat (first | apply Kd.V_alloc | apply Kd.V_drewN | apply Kd.V_drew)); exact HO152.out) (by first | exact Kd.N_base ho22 | exact Kd.S_base ho22 | exact Kd.R_base ho22) hb)
                       have n5_ := zk (Kd.V_elder' (by (with_reducible repeat (first | apply Kd.V_alloc | apply Kd.V_drewN | apply Kd.V_drew)); exact HO166.out) (by first | exact Kd.N_base ho22 | exact Kd.S_base ho22 | exact Kd.R_base ho22) hb)
                       have n6_ := zk (Kd.N_elder' (by (with_reducible repeat (first | apply Kd.N_alloc | apply Kd.N_drewN | apply Kd.N_drew)); exact HO158.out) (by first | exact Kd.N_base ho22 | exact Kd.S_base ho22 | exact Kd.R_base ho22) hb)
                       have n7_ := zk (Kd.N_lower ho22 (below_size (by repeat (first | exact HB.out | apply za | apply zd | apply ze))))
                       have n8_ := zk (Kd.C_below (by repeat (first | (with_reducible exact HR141_0.out) | (with_reducible refine zv ?_ _) | (with_reducible refine zu ?_ _) | (with_reducible refine zw ?_) | exact HR141_0.out)) hb)
                       have n9_ := zk (Kd.C_below (by repeat (first | (with_reducible exact HR143_0.out) | (with_reducible refine zv ?_ _) | (with_reducible refine zu ?_ _) | (with_reducible refine zw ?_) | exact HR143_0.out)) hb)
                       have n10_ := zk (below_step (by repeat (first | exact HB.out | apply za | apply zd | apply ze)) hb)
                       clear HO_0
                       clear HO_1
                       clear HL141_0
                       clear HL143_0
                       clear HO152
                       clear HO166
                       clear HO158
                       clear HR141_0
                       clear HR143_0
                       clear HB
                       have HO_0 := n0_
                       have HO_1 := n1_
                       have HL141_0 := n2_
                       have HL143_0 := n3_
                       have HO152 := n4_
                       have HO166 := n5_
                       have HO158 := n6_
                       have HO147 := n7_
                       have HR141_0 := n8_
                       have HR143_0 := n9_
                       have HB := n10_
                       clear n0_ n1_ n2_ n3_ n4_ n5_ n6_ n7_ n8_ n9_ n10_
                       clear hb ho22
                       refine hK.out _ _ trivial (fun hHeld => ?_)
                       clear hK K
                       refine norm_ (a' := ?_) ?_ ?_
                       rotate_left
                       · show Act.put _ (some 33) _ = _
                         simp only [Act.put, List.setIfInBounds_toArray, List.set_cons_zero, List.set_cons_succ, i64_w, i32_w]
                         rfl
                       refine one_ (i := 4) (N := some 37) #[true, true, true, true, true, true, true, false, true, true, true, false, false] rfl rfl (one_of HT_.out (by kernel_rfl)) (by decide) (fun K hK => ?_)
                       refine Kd.N_append_rows_step (Kd.slice 3 (Kd.int .i64)) (w0 := w) w.heap.size (by rfl) (.tmp 33) (.tmp 36) 28 22 (.slice none 0 0) 24 rfl Try.underlying28 info22 rfl (by decide) (by omega) v146 y145 y148 _ _ _ (fun k_ => ((P0_ k_ ∨ P1_ k_) ∨ w.heap.size ≤ k_) ∧ some k_ ≠ (v157 : Value).ownBlock) (fun k_ => ((fun k_ => ((P0_ k_ ∨ P1_ k_) ∨ w.heap.size ≤ k_) ∧ some k_ ≠ (v157 : Value).ownBlock)) k_ ∧ some k_ ≠ (v146 : Value).ownBlock) rfl rfl ?aO ?aR (fun _ hk => hk) ?aF ?aB ?aS ?aL ?_
                       (case aR => exact (by skip; exact Kd.V_F (by (with_reducible repeat (first | apply Kd.V_alloc | apply Kd.V_drewN | apply Kd.V_drew)); exact Kd.V_mono (ok' := (fun k_ => ((fun k_ => ((P0_ k_ ∨ P1_ k_) ∨ w.heap.size ≤ k_) ∧ some k_ ≠ (v157 : Value).ownBlock)) k_ ∧ some k_ ≠ (v146 : Value).ownBlock)) (HO152.out) (fun k_ hk => ⟨⟨hk.1.1, hk.1.2⟩, hk.2⟩))))
                       (case aB => exact (by repeat (first | exact HB.out | apply za | apply zd | apply ze)))
                       (case aF => exact (fun k_ hk => ⟨(.inr (Nat.le_trans (below_size (by repeat (first | exact HB.out | apply za | apply zd | apply ze))) hk)), Kd.fresh' (Kd.N_lt (by (with_reducible repeat (first | apply Kd.N_alloc | apply Kd.N_drewN | apply Kd.N_drew)); exact HO158.out)) k_ hk⟩))
                       (case aO => exact (by (with_reducible repeat (first | apply Kd.N_alloc | apply Kd.N_drewN | apply Kd.N_drew)); exact HO147.out))
                       (case aS => exact (below_size (by repeat (first | exact HB.out | apply za | apply zd | apply ze))))
                       (case aL => have := LMc11.out; omega)
                       intro v154 w23 ho hb hg hat
                       rw [← Ny153.out] at ho
                       have n0_ := zk (Kd.V_afterv (ok := (fun k_ => ((P0_ k_ ∨ P1_ k_) ∨ w.heap.size ≤ k_) ∧ some k_ ≠ (v157 : Value).ownBlock)) (by (with_reducible repeat (first | apply Kd.V_alloc | apply Kd.V_drewN | apply Kd.V_drew)); exact HO_0.out) hg hat)
                       have n1_ := zk (Kd.V_afterv (ok := (fun k_ => ((P0_ k_ ∨ P1_ k_) ∨ w.heap.size ≤ k_) ∧ some k_ ≠ (v157 : Value).ownBlock)) (by (with_reducible repeat (first | apply Kd.V_alloc | apply Kd.V_drewN | apply Kd.V_drew)); exact HO_1.out) hg hat)
                       have n2_ := zk (Kd.V_afterv (ok := (fun k_ => ((P0_ k_ ∨ P1_ k_) ∨ w.heap.size ≤ k_) ∧ some k_ ≠ (v157 : Value).ownBlock)) (by (with_reducible repeat (first | apply Kd.V_alloc | apply Kd.V_drewN | apply Kd.V_drew)); exact HL141_0.out) hg hat)
                       have n3_ := zk (Kd.V_afterv (ok := (fun k_ => ((P0_ k_ ∨ P1_ k_) ∨ w.heap.size ≤ k_) ∧ some k_ ≠ (v157 : Value).ownBlock)) (by (with_reducible repeat (first | apply Kd.V_alloc | apply Kd.V_drewN | apply Kd.V_drew)); exact HL143_0.out) hg hat)
                       have n4_ := zk (Kd.V_afterv (ok := (fun k_ => ((P0_ k_ ∨ P1_ k_) ∨ w.heap.size ≤ k_) ∧ some k_ ≠ (v157 : Value).ownBlock)) (by (with_reducible repeat (first | apply Kd.V_alloc | apply Kd.V_drewN | apply Kd.V_drew)); exact HO152.out) hg hat)
                       have n5_ := zk (Kd.V_afterv (ok := (fun k_ => ((P0_ k_ ∨ P1_ k_) ∨ w.heap.size ≤ k_) ∧ some k_ ≠ (v157 : Value).ownBlock)) (by (with_reducible repeat (first | apply Kd.V_alloc | apply Kd.V_drewN | apply Kd.V_drew)); exact HO166.out) hg hat)
                       have n6_ := zk (Kd.N_afterv (ok := (fun k_ => ((P0_ k_ ∨ P1_ k_) ∨ w.heap.size ≤ k_))) (by (with_reducible repeat (first | apply Kd.N_alloc | apply Kd.N_drewN | apply Kd.N_drew)); exact HO158.out) hg hat)
                       have n7_ := zk (hb)
                       have n8_ := zk (ho)
                       clear HO_0
                       clear HO_1
                       clear HL141_0
                       clear HL143_0
                       clear HO152
                       clear HO166
                       clear HO158
                       clear HB
                       clear HO147
                       have HO_0 := n0_
                       have HO_1 := n1_
                       have HL141_0 := n2_
                       have HL143_0 := n3_
                       have HO152 := n4_
                       have HO166 := n5_
                       have HO158 := n6_
                       have HB := n7_
                       have HO155 := n8_
                       clear n0_ n1_ n2_ n3_ n4_ n5_ n6_ n7_ n8_
                       clear ho hb hg hat
                       refine hK.out _ _ trivial (fun hHeld => ?_)
                       clear hK K
                       refine norm_ (a' := ?_) ?_ ?_
                       rotate_left
                       · show Act.put _ (some 37) _ = _
                         simp only [Act.put, List.setIfInBounds_toArray, List.set_cons_zero, List.set_cons_succ, i64_w, i32_w]
                         rfl
                       exact norm_ (by simp only [putAll, Act.put, List.setIfInBounds_toArray, List.set_cons_zero, List.set_cons_succ]) (hCont (v146, v154, v157) _ ⟨(by (with_reducible repeat (first | apply Kd.V_alloc | apply Kd.V_drewN | apply Kd.V_drew)); exact Kd.V_mono HL141_0.out (fun _ hk => ⟨hk.1.1, ⟨hk.2, hk.1.2⟩⟩)), (by (with_reducible repeat (first | apply Kd.V_alloc | apply Kd.V_drewN | apply Kd.V_drew)); exact Kd.V_mono HL143_0.out (fun _ hk => ⟨hk.1.1, ⟨hk.2, hk.1.2⟩⟩)), (by (with_reducible repeat (first | apply Kd.V_alloc | apply Kd.V_drewN | apply Kd.V_drew)); exact Kd.V_mono HO152.out (fun _ hk => ⟨hk.1.1, ⟨hk.2, hk.1.2⟩⟩)), (by (with_reducible repeat (first | apply Kd.N_alloc | apply Kd.N_drewN | apply Kd.N_drew)); exact HO155.out), (by (with_reducible repeat (first | apply Kd.N_alloc | apply Kd.N_drewN | apply Kd.N_drew)); exact HO158.out), (by (with_reducible repeat (first | apply Kd.V_alloc | apply Kd.V_drewN | apply Kd.V_drew)); exact Kd.V_mono HO166.out (fun _ hk => ⟨hk.1.1, ⟨hk.2, hk.1.2⟩⟩)), (by (with_reducible repeat (first | apply Kd.V_alloc | apply Kd.V_drewN | apply Kd.V_drew)); exact Kd.V_mono HO_0.out (fun _ hk => ⟨hk.1.1, ⟨hk.2, hk.1.2⟩⟩)), (by (with_reducible repeat (first | apply Kd.V_alloc | apply Kd.V_drewN | apply Kd.V_drew)); exact Kd.V_mono HO_1.out (fun _ hk => ⟨hk.1.1, ⟨hk.2, hk.1.2⟩⟩)), (by repeat (first | exact HB.out | apply za | apply zd | apply ze))⟩)
                   rintro ⟨v146, v154, v157⟩ w24 ⟨h0_, h1_, h2_, h3_, h4_, h5_, h6_, h7_, h8_⟩
                   have n0_ : Aside0 (Kd.V (Kd.int .i64) 3 w24 w.heap.size (fun k_ => ((P0_ k_ ∨ P1_ k_) ∨ w.heap.size ≤ k_) ∧ some k_ ≠ (v154 : Value).ownBlock ∧ some k_ ≠ (v157 : Value).ownBlock) (.slice A141_0 (rd_L2 l0 x5_1).length c141_0) (rd_L2 l0 x5_1)) := ⟨h0_⟩
                   have n1_ : Aside0 (Kd.V (Kd.int .i64) 3 w24 w.heap.size (fun k_ => ((P0_ k_ ∨ P1_ k_) ∨ w.heap.size ≤ k_) ∧ some k_ ≠ (v154 : Value).ownBlock ∧ some k_ ≠ (v157 : Value).ownBlock) (.slice A141_0 (rd_L2 l0 x5_1).length c141_0) (rd_L2 l0 x5_1)) := ⟨h1_⟩
                   have n2_ : Aside0 (Kd.V (Kd.slice 3 (Kd.int .i64)) 22 w24 w.heap.size (fun k_ => ((P0_ k_ ∨ P1_ k_) ∨ w.heap.size ≤ k_) ∧ some k_ ≠ (v154 : Value).ownBlock ∧ some k_ ≠ (v157 : Value).ownBlock) (.slice (some ad141) y148.length c0) y148) := ⟨h2_⟩
                   have n3_ : Aside0 (Kd.N (Kd.slice 3 (Kd.int .i64)) 22 w24 w.heap.size (fun k_ => ((P0_ k_ ∨ P1_ k_) ∨ w.heap.size ≤ k_) ∧ some k_ ≠ (v157 : Value).ownBlock) v154 y153) := ⟨h3_⟩
                   have n4_ : Aside0 (Kd.N (Kd.slice 3 (Kd.int .i64)) 22 w24 w.heap.size (fun k_ => ((P0_ k_ ∨ P1_ k_) ∨ w.heap.size ≤ k_) ∧ some k_ ≠ (v154 : Value).ownBlock) v157 y156) := ⟨h4_⟩
                   have n5_ : Aside0 (Kd.V (Kd.slice 3 (Kd.int .i64)) 22 w24 w.heap.size (fun k_ => ((P0_ k_ ∨ P1_ k_) ∨ w.heap.size ≤ k_) ∧ some k_ ≠ (v154 : Value).ownBlock ∧ some k_ ≠ (v157 : Value).ownBlock) (.slice A18 y162.length c18) y162) := ⟨h5_⟩
                   have n6_ : Aside0 (Kd.V (Kd.slice 3 (Kd.int .i64)) 22 w24 w.heap.size (fun k_ => ((P0_ k_ ∨ P1_ k_) ∨ w.heap.size ≤ k_) ∧ some k_ ≠ (v154 : Value).ownBlock ∧ some k_ ≠ (v157 : Value).ownBlock) (.slice (some ad141) l0.length c0) l0) := ⟨h6_⟩
                   have n7_ : Aside0 (Kd.V (Kd.int .i64) 3 w24 w.heap.size (fun k_ => ((P0_ k_ ∨ P1_ k_) ∨ w.heap.size ≤ k_) ∧ some k_ ≠ (v154 : Value).ownBlock ∧ some k_ ≠ (v157 : Value).ownBlock) (.slice A1 l1.length c1) l1) := ⟨h7_⟩
                   have n8_ : Aside0 (Below w.heap.size w w24) := ⟨h8_⟩
                   clear HO_0
                   clear HO_1
                   clear HL141_0
                   clear HL143_0
                   clear HR141_0
                   clear HR143_0
                   clear HB
                   clear h0_ h1_ h2_ h3_ h4_ h5_ h6_ h7_ h8_
                   have HL141_0 := n0_
                   have HL143_0 := n1_
                   have HO152 := n2_
                   have HO155 := n3_
                   have HO158 := n4_
                   have HO166 := n5_
                   have HO_0 := n6_
                   have HO_1 := n7_
                   have HB := n8_
                   clear n0_ n1_ n2_ n3_ n4_ n5_ n6_ n7_ n8_
                   have hHeld := trivial
                   obtain ⟨Ao26, co26, eo26⟩ := Kd.N_slice HO158.out
                   (first | subst eo26 | (injection eo26 with f1_ f2_ f3_; have f4_ := f1_.symm; have f5_ := f3_.symm; clear f1_ f2_ f3_; subst f4_; subst f5_))
                   refine norm_ (a' := ?_) ?_ ?_
                   rotate_left
                   · simp only [putAll, Act.put, List.setIfInBounds_toArray, List.set_cons_zero, List.set_cons_succ]
                     rfl
                   refine one_ (i := 7) (N := some 40) #[true, true, true, true, true, true, true, true, true, true, true, false, false] rfl rfl (one_of HT_.out (by kernel_rfl)) (by decide) (fun K hK => ?_)
                   refine Kd.N_append_rows_step (Kd.slice 3 (Kd.int .i64)) (w0 := w) w.heap.size (by rfl) (.tmp 37) (.tmp 39) 28 22 (.slice none 0 0) 24 rfl Try.underlying28 info22 rfl (by decide) (by omega) v154 y153 y156 _ _ _ (fun k_ => ((P0_ k_ ∨ P1_ k_) ∨ w.heap.size ≤ k_)) (fun k_ => ((fun k_ => ((P0_ k_ ∨ P1_ k_) ∨ w.heap.size ≤ k_))) k_ ∧ some k_ ≠ (v154 : Value).ownBlock) rfl rfl ?aO ?aR (fun _ hk => hk) ?aF ?aB ?aS ?aL ?_
                   (case aR => exact (by skip; exact Kd.N_F (Kd.N_mono (ok' := (fun k_ => ((fun k_ => ((P0_ k_ ∨ P1_ k_) ∨ w.heap.size ≤ k_))) k_ ∧ some k_ ≠ (v154 : Value).ownBlock)) (HO158.out) (fun k_ hk => ⟨hk.1, hk.2⟩))))
                   (case aB => exact (by repeat (first | exact HB.out | apply za | apply zd | apply ze)))
                   (case aF => exact (fun k_ hk => (.inr (Nat.le_trans (below_size (by repeat (first | exact HB.out | apply za | apply zd | apply ze))) hk))))
                   (case aO => exact (by (with_reducible repeat (first | apply Kd.N_alloc | apply Kd.N_drewN | apply Kd.N_drew)); exact Kd.N_mono HO155.out (fun _ hk => hk.1)))
                   (case aS => exact (below_size (by repeat (first | exact HB.out | apply za | apply zd | apply ze))))
                   (case aL => have := LMc12.out; omega)
                   intro v160 w25 ho hb hg hat
                   rw [← Ny159.out] at ho
                   have n0_ := zk (Kd.V_afterv (ok := (fun k_ => ((P0_ k_ ∨ P1_ k_) ∨ w.heap.size ≤ k_) ∧ some k_ ≠ (.slice Ao26 y156.length co26 : Value).ownBlock)) (by (with_reducible repeat (first | apply Kd.V_alloc | apply Kd.V_drewN | apply Kd.V_drew)); first | exact Kd.V_mono HO_0.out (fun _ hk => ⟨⟨hk.1, hk.2.2⟩, hk.2.1⟩) | exact Kd.V_mono HO_0.out (fun k_ hk => by (have own_ : ∀ (A : Option Addr) (n c : Nat), (Value.slice A n c).ownBlock = A.map Addr.block := fun A n c => by cases A <;> rfl); simp only [own_] at hk ⊢; exact ⟨⟨hk.1, hk.2.2⟩, hk.2.1⟩)) hg hat)
                   have n1_ := zk (Kd.V_afterv (ok := (fun k_ => ((P0_ k_ ∨ P1_ k_) ∨ w.heap.size ≤ k_) ∧ some k_ ≠ (.slice Ao26 y156.length co26 : Value).ownBlock)) (by (with_reducible repeat (first | apply Kd.V_alloc | apply Kd.V_drewN | apply Kd.V_drew)); first | exact Kd.V_mono HO_1.out (fun _ hk => ⟨⟨hk.1, hk.2.2⟩, hk.2.1⟩) | exact Kd.V_mono HO_1.out (fun k_ hk => by (have own_ : ∀ (A : Option Addr) (n c : Nat), (Value.slice A n c).ownBlock = A.map Addr.block := fun A n c => by cases A <;> rfl); simp only [own_] at hk ⊢; exact ⟨⟨hk.1, hk.2.2⟩, hk.2.1⟩)) hg hat)
                   have n2_ := zk (Kd.V_afterv (ok := (fun k_ => ((P0_ k_ ∨ P1_ k_) ∨ w.heap.size ≤ k_) ∧ some k_ ≠ (.slice Ao26 y156.length co26 : Value).ownBlock)) (by (with_reducible repeat (first | apply Kd.V_alloc | apply Kd.V_drewN | apply Kd.V_drew)); exact Kd.V_mono HL141_0.out (fun _ hk => ⟨⟨hk.1, hk.2.2⟩, hk.2.1⟩)) hg hat)
                   have n3_ := zk (Kd.V_afterv (ok := (fun k_ => ((P0_ k_ ∨ P1_ k_) ∨ w.heap.size ≤ k_) ∧ some k_ ≠ (.slice Ao26 y156.length co26 : Value).ownBlock)) (by (with_reducible repeat (first | apply Kd.V_alloc | apply Kd.V_drewN | apply Kd.V_drew)); exact Kd.V_mono HL143_0.out (fun _ hk => ⟨⟨hk.1, hk.2.2⟩, hk.2.1⟩)) hg hat)
                   have n4_ := zk (Kd.V_afterv (ok := (fun k_ => ((P0_ k_ ∨ P1_ k_) ∨ w.heap.size ≤ k_) ∧ some k_ ≠ (.slice Ao26 y156.length co26 : Value).ownBlock)) (by (with_reducible repeat (first | apply Kd.V_alloc | apply Kd.V_drewN | apply Kd.V_drew)); first | exact Kd.V_mono HO152.out (fun _ hk => ⟨⟨hk.1, hk.2.2⟩, hk.2.1⟩) | exact Kd.V_mono HO152.out (fun k_ hk => by (have own_ : ∀ (A : Option Addr) (n c : Nat), (Value.slice A n c).ownBlock = A.map Addr.block := fun A n c => by cases A <;> rfl); simp only [own_] at hk ⊢; exact ⟨⟨hk.1, hk.2.2⟩, hk.2.1⟩)) hg hat)
                   have n5_ := zk (Kd.V_afterv (ok := (fun k_ => ((P0_ k_ ∨ P1_ k_) ∨ w.heap.size ≤ k_) ∧ some k_ ≠ (.slice Ao26 y156.length co26 : Value).ownBlock)) (by (with_reducible repeat (first | apply Kd.V_alloc | apply Kd.V_drewN | apply Kd.V_drew)); first | exact Kd.V_mono HO166.out (fun _ hk => ⟨⟨hk.1, hk.2.2⟩, hk.2.1⟩) | exact Kd.V_mono HO166.out (fun k_ hk => by (have own_ : ∀ (A : Option Addr) (n c : Nat), (Value.slice A n c).ownBlock = A.map Addr.block := fun A n c => by cases A <;> rfl); simp only [own_] at hk ⊢; exact ⟨⟨hk.1, hk.2.2⟩, hk.2.1⟩)) hg hat)
                   have n6_ := zk (Kd.N_afterv (ok := (fun k_ => ((P0_ k_ ∨ P1_ k_) ∨ w.heap.size ≤ k_))) (by (with_reducible repeat (first | apply Kd.N_alloc | apply Kd.N_drewN | apply Kd.N_drew)); exact HO158.out) hg hat)
                   have n7_ := zk (hb)
                   have n8_ := zk (ho)
                   clear HO_0
                   clear HO_1
                   clear HL141_0
                   clear HL143_0
                   clear HO152
                   clear HO166
                   clear HO158
                   clear HB
                   clear HO155
                   have HO_0 := n0_
                   have HO_1 := n1_
                   have HL141_0 := n2_
                   have HL143_0 := n3_
                   have HO152 := n4_
                   have HO166 := n5_
                   have HO158 := n6_
                   have HB := n7_
                   have HO161 := n8_
                   clear n0_ n1_ n2_ n3_ n4_ n5_ n6_ n7_ n8_
                   clear ho hb hg hat
                   refine hK.out _ _ trivial (fun hHeld => ?_)
                   clear hK K
                   refine norm_ (a' := ?_) ?_ ?_
                   rotate_left
                   · show Act.put _ (some 40) _ = _
                     simp only [Act.put, List.setIfInBounds_toArray, List.set_cons_zero, List.set_cons_succ, i64_w, i32_w]
                     rfl
                   refine one_ (i := 11) (N := some 44) #[true, true, true, true, true, true, true, true, true, true, true, true, false] rfl rfl (one_of HT_.out (by kernel_rfl)) (by decide) (fun K hK => ?_)
                   refine Kd.N_append_rows_step (Kd.slice 3 (Kd.int .i64)) (w0 := w) w.heap.size (by rfl) (.tmp 40) (.tmp 43) 28 22 (.slice none 0 0) 24 rfl Try.underlying28 info22 rfl (by decide) (by omega) v160 y159 y162 _ _ _ (fun k_ => ((P0_ k_ ∨ P1_ k_) ∨ w.heap.size ≤ k_)) (fun k_ => ((fun k_ => ((P0_ k_ ∨ P1_ k_) ∨ w.heap.size ≤ k_))) k_ ∧ some k_ ≠ (v160 : Value).ownBlock) rfl rfl ?aO ?aR (fun _ hk => hk) ?aF ?aB ?aS ?aL ?_
                   (case aR => exact (by skip; exact Kd.V_F (by (with_reducible repeat (first | apply Kd.V_alloc | apply Kd.V_drewN | apply Kd.V_drew)); exact Kd.V_mono (ok' := (fun k_ => ((fun k_ => ((P0_ k_ ∨ P1_ k_) ∨ w.heap.size ≤ k_))) k_ ∧ some k_ ≠ (v160 : Value).ownBlock)) (HO166.out) (fun k_ hk => ⟨hk.1.1, hk.2⟩))))
                   (case aB => exact (by repeat (first | exact HB.out | apply za | apply zd | apply ze)))
                   (case aF => exact (fun k_ hk => (.inr (Nat.le_trans (below_size (by repeat (first | exact HB.out | apply za | apply zd | apply ze))) hk))))
                   (case aO => exact (by (with_reducible repeat (first | apply Kd.N_alloc | apply Kd.N_drewN | apply Kd.N_drew)); exact HO161.out))
                   (case aS => exact (below_size (by repeat (first | exact HB.out | apply za | apply zd | apply ze))))
                   (case aL => have := LMc15.out; omega)
                   intro v168 w27 ho hb hg hat
                   rw [← Ny167.out] at ho
                   have n0_ := zk (Kd.V_afterv (ok := (fun k_ => ((P0_ k_ ∨ P1_ k_) ∨ w.heap.size ≤ k_) ∧ some k_ ≠ (.slice Ao26 y156.length co26 : Value).ownBlock)) (by (with_reducible repeat (first | apply Kd.V_alloc | apply Kd.V_drewN | apply Kd.V_drew)); exact HO_0.out) hg hat)
                   have n1_ := zk (Kd.V_afterv (ok := (fun k_ => ((P0_ k_ ∨ P1_ k_) ∨ w.heap.size ≤ k_) ∧ some k_ ≠ (.slice Ao26 y156.length co26 : Value).ownBlock)) (by (with_reducible repeat (first | apply Kd.V_alloc | apply Kd.V_drewN | apply Kd.V_drew)); exact HO_1.out) hg hat)
                   have n2_ := zk (Kd.V_afterv (ok := (fun k_ => ((P0_ k_ ∨ P1_ k_) ∨ w.heap.size ≤ k_) ∧ some k_ ≠ (.slice Ao26 y156.length co26 : Value).ownBlock)) (by (with_reducible repeat (first | apply Kd.V_alloc | apply Kd.V_drewN | apply Kd.V_drew)); exact HL141_0.out) hg hat)
                   have n3_ := zk (Kd.V_afterv (ok := (fun k_ => ((P0_ k_ ∨ P1_ k_) ∨ w.heap.size ≤ k_) ∧ some k_ ≠ (.slice Ao26 y156.length co26 : Value).ownBlock)) (by (with_reducible repeat (first | apply Kd.V_alloc | apply Kd.V_drewN | apply Kd.V_drew)); exact HL143_0.out) hg hat)
                   have n4_ := zk (Kd.V_afterv (ok := (fun k_ => ((P0_ k_ ∨ P1_ k_) ∨ w.heap.size ≤ k_) ∧ some k_ ≠ (.slice Ao26 y156.length co26 : Value).ownBlock)) (by (with_reducible repeat (first | apply Kd.V_alloc | apply Kd.V_drewN | apply Kd.V_drew)); exact HO152.out) hg hat)
                   have n5_ := zk (Kd.V_afterv (ok := (fun k_ => ((P0_ k_ ∨ P1_ k_) ∨ w.heap.size ≤ k_) ∧ some k_ ≠ (.slice Ao26 y156.length co26 : Value).ownBlock)) (by (with_reducible repeat (first | apply Kd.V_alloc | apply Kd.V_drewN | apply Kd.V_drew)); exact HO166.out) hg hat)
                   have n6_ := zk (Kd.N_afterv (ok := (fun k_ => ((P0_ k_ ∨ P1_ k_) ∨ w.heap.size ≤ k_))) (by (with_reducible repeat (first | apply Kd.N_alloc | apply Kd.N_drewN | apply Kd.N_drew)); exact HO158.out) hg hat)
                   have n7_ := zk (hb)
                   have n8_ := zk (ho)
                   clear HO_0
                   clear HO_1
                   clear HL141_0
                   clear HL143_0
                   clear HO152
                   clear HO166
                   clear HO158
                   clear HB
                   clear HO161
                   have HO_0 := n0_
                   have HO_1 := n1_
                   have HL141_0 := n2_
                   have HL143_0 := n3_
                   have HO152 := n4_
                   have HO166 := n5_
                   have HO158 := n6_
                   have HB := n7_
                   have HO169 := n8_
                   clear n0_ n1_ n2_ n3_ n4_ n5_ n6_ n7_ n8_
                   clear ho hb hg hat
                   refine hK.out _ _ trivial (fun hHeld => ?_)
                   clear hK K
                   refine norm_ (a' := ?_) ?_ ?_
                   rotate_left
                   · show Act.put _ (some 44) _ = _
                     simp only [Act.put, List.setIfInBounds_toArray, List.set_cons_zero, List.set_cons_succ, i64_w, i32_w]
                     rfl
                   refine pure_ (i := 12) (N := some 4) (v := ?_) (a' := ?_) #[true, true, true, true, true, true, true, true, true, true, true, true, true] rfl rfl (any_of HT_.out (by kernel_rfl)) (fun _ _ _ h => h) (Or.inl ⟨by rfl, ?_⟩) ?_ ?_
                   rotate_left
                   · intro w'
                     go_simp
                     with_reducible rfl
                   rotate_left
                   · simp only [Act.put, List.setIfInBounds_toArray, List.set_cons_zero, List.set_cons_succ, i64_w, i32_w]
                     rfl
                   refine done_ (done_of HT_.out (by kernel_rfl)) ?_
                   try go_wp2
                   go_ret
                   exact ⟨_, by first | rfl | (simp [errW_none, errW_some] <;> rfl) | (simp [*, errW_none, errW_some] <;> rfl), Kd.N_V (by (with_reducible repeat (first | apply Kd.N_alloc | apply Kd.N_drewN | apply Kd.N_drew)); exact HO169.out), by repeat (first | exact HB.out | apply za | apply zd | apply ze)⟩
                 · rw [if_neg c15] at H
                   exact absurd H (by simp)
               · rw [if_neg c12] at H
                 exact absurd H (by simp)
             · rw [if_neg c11] at H
               exact absurd H (by simp)
           · rw [if_neg c10] at H
             exact absurd H (by simp)
     · rw [if_neg c4] at H
       exact absurd H (by simp)
   · rw [if_neg c3] at H
     have c3b0 : decide (x5_1 < (l0.length : Int)) = false := decide_eq_false c3
     clear c3
     obtain ⟨y170, hy170⟩ : ∃ y_ : List (List Int), y_ = (([] : List (List Int))) := ⟨_, rfl⟩
     replace H : (if 0 ≤ x5_1 then (if x5_1 ≤ (l0.length : Int) then ((some (l0.take (x5_1 : Int).toNat : List (List Int))).bind fun y173 => (if y170.length + y173.length < 5864062014805 then ((some (y170 ++ y173 : List (List Int))).bind fun y178 => ((some (([l1] : List (List Int)) : List (List Int))).bind fun y181 => (if y178.length + y181.length < 5864062014805 then ((some (y178 ++ y181 : List (List Int))).bind fun y184 => ((some (l0.drop (x5_1 : Int).toNat : List (List Int))).bind fun y187 => (if y184.length + y187.length < 5864062014805 then (some (y184 ++ y187)) else (none)))) else (none)))) else (none))) else (none)) else (none)) = some r := by first | (rw [hy170]; with_reducible exact H) | (have H2_ := (Option.bind_some _ _).symm.trans H; rw [hy170]; with_reducible exact H2_) | (have H2_ := (Option.bind_some _ _).symm.trans H; with_reducible exact H2_) | with_reducible exact H | (rw [hy170]; exact H) | exact H
     have Ny170 := zk hy170
     clear hy170
     by_cases c28 : 0 ≤ x5_1
     · rw [if_pos c28] at H
       have c28b0 := eq_true c28
       have c28b1 : decide (0 ≤ x5_1) = true := decide_eq_true c28
       clear c28
       by_cases c29 : x5_1 ≤ (l0.length : Int)
       · rw [if_pos c29] at H
         have c29b0 := eq_true c29
         have c29b1 : decide (x5_1 ≤ (l0.length : Int)) = true := decide_eq_true c29
         clear c29
         obtain ⟨y173, hy173⟩ : ∃ y_ : List (List Int), y_ = (l0.take (x5_1 : Int).toNat) := ⟨_, rfl⟩
         replace H : (if y170.length + y173.length < 5864062014805 then ((some (y170 ++ y173 : List (List Int))).bind fun y178 => ((some (([l1] : List (List Int)) : List (List Int))).bind fun y181 => (if y178.length + y181.length < 5864062014805 then ((some (y178 ++ y181 : List (List Int))).bind fun y184 => ((some (l0.drop (x5_1 : Int).toNat : List (List Int))).bind fun y187 => (if y184.length + y187.length < 5864062014805 then (some (y184 ++ y187)) else (none)))) else (none)))) else (none)) = some r := by first | (rw [hy173]; with_reducible exact H) | (have H2_ := (Option.bind_some _ _).symm.trans H; rw [hy173]; with_reducible exact H2_) | (have H2_ := (Option.bind_some _ _).symm.trans H; with_reducible exact H2_) | with_reducible exact H | (rw [hy173]; exact H) | exact H
         have Ny173 := zk hy173
         clear hy173
         by_cases c30 : y170.length + y173.length < 5864062014805
         · rw [if_pos c30] at H
           have LMc30 := zk c30
           clear c30
           obtain ⟨y178, hy178⟩ : ∃ y_ : List (List Int), y_ = (y170 ++ y173) := ⟨_, rfl⟩
           replace H : ((some (([l1] : List (List Int)) : List (List Int))).bind fun y181 => (if y178.length + y181.length < 5864062014805 then ((some (y178 ++ y181 : List (List Int))).bind fun y184 => ((some (l0.drop (x5_1 : Int).toNat : List (List Int))).bind fun y187 => (if y184.length + y187.length < 5864062014805 then (some (y184 ++ y187)) else (none)))) else (none))) = some r := by first | (rw [hy178]; with_reducible exact H) | (have H2_ := (Option.bind_some _ _).symm.trans H; rw [hy178]; with_reducible exact H2_) | (have H2_ := (Option.bind_some _ _).symm.trans H; with_reducible exact H2_) | with_reducible exact H | (rw [hy178]; exact H) | exact H
           have Ny178 := zk hy178
           clear hy178
           obtain ⟨y181, hy181⟩ : ∃ y_ : List (List Int), y_ = (([l1] : List (List Int))) := ⟨_, rfl⟩
           replace H : (if y178.length + y181.length < 5864062014805 then ((some (y178 ++ y181 : List (List Int))).bind fun y184 => ((some (l0.drop (x5_1 : Int).toNat : List (List Int))).bind fun y187 => (if y184.length + y187.length < 5864062014805 then (some (y184 ++ y187)) else (none)))) else (none)) = some r := by first | (rw [hy181]; with_reducible exact H) | (have H2_ := (Option.bind_some _ _).symm.trans H; rw [hy181]; with_reducible exact H2_) | (have H2_ := (Option.bind_some _ _).symm.trans H; with_reducible exact H2_) | with_reducible exact H | (rw [hy181]; exact H) | exact H
           have Ny181 := zk hy181
           clear hy181
           by_cases c31 : y178.length + y181.length < 5864062014805
           · rw [if_pos c31] at H
             have LMc31 := zk c31
             clear c31
             obtain ⟨y184, hy184⟩ : ∃ y_ : List (List Int), y_ = (y178 ++ y181) := ⟨_, rfl⟩
             replace H : ((some (l0.drop (x5_1 : Int).toNat : List (List Int))).bind fun y187 => (if y184.length + y187.length < 5864062014805 then (some (y184 ++ y187)) else (none))) = some r := by first | (rw [hy184]; with_reducible exact H) | (have H2_ := (Option.bind_some _ _).symm.trans H; rw [hy184]; with_reducible exact H2_) | (have H2_ := (Option.bind_some _ _).symm.trans H; with_reducible exact H2_) | with_reducible exact H | (rw [hy184]; exact H) | exact H
             have Ny184 := zk hy184
             clear hy184
             have c32b0 := eq_true (zo (by assumption) : 0 ≤ x5_1)
             have c33b0 := eq_true (zo (by assumption) : x5_1 ≤ (l0.length : Int))
             obtain ⟨y187, hy187⟩ : ∃ y_ : List (List Int), y_ = (l0.drop (x5_1 : Int).toNat) := ⟨_, rfl⟩
             replace H : (if y184.length + y187.length < 5864062014805 then (some (y184 ++ y187)) else (none)) = some r := by first | (rw [hy187]; with_reducible exact H) | (have H2_ := (Option.bind_some _ _).symm.trans H; rw [hy187]; with_reducible exact H2_) | (have H2_ := (Option.bind_some _ _).symm.trans H; with_reducible exact H2_) | with_reducible exact H | (rw [hy187]; exact H) | exact H
             have Ny187 := zk hy187
             clear hy187
             by_cases c34 : y184.length + y187.length < 5864062014805
             · rw [if_pos c34] at H
               have LMc34 := zk c34
               clear c34
               obtain ⟨y192, hy192⟩ : ∃ y_ : List (List Int), y_ = (y184 ++ y187) := ⟨_, rfl⟩
               replace H : (some y192) = some r := by first | (rw [hy192]; with_reducible exact H) | (have H2_ := (Option.bind_some _ _).symm.trans H; rw [hy192]; with_reducible exact H2_) | (have H2_ := (Option.bind_some _ _).symm.trans H; with_reducible exact H2_) | with_reducible exact H | (rw [hy192]; exact H) | exact H
               have Ny192 := zk hy192
               clear hy192
               obtain rfl := Option.some.inj H
               try go_wp2
               have n0_ := zk (Kd.V_drew HO_0.out)
               have n1_ := zk (Kd.V_drew HO_1.out)
               have n2_ := zk (ze HB.out)
               clear HO_0
               clear HO_1
               clear HB
               have HO_0 := n0_
               have HO_1 := n1_
               have HB := n2_
               clear n0_ n1_ n2_
               have q36 : (x5_1 : Int) ≤ ((l0.length : Int) : Int) := zo (by assumption)
               obtain ⟨i036, hi036, _, hsz36, _⟩ := info_parts info22
               have hroom36 : l0.length ≤ c0 := (Kd.V_reads' HO_0.out).2.1
               have hC36 : Kd.F (Kd.slice 3 (Kd.int .i64)) _ _ A0 l0.length l0 := (Kd.V_at (base := w.heap.size) HO_0.out).2.2
               have hcut36 := cut_to (P := Try.prog) 28 22 .i64 Try.underlying28 hi036 A0 l0.length c0 x5_1 (zo (by assumption)) q36 hroom36
               have hr36 := Kd.F_take (m := (x5_1 : Int).toNat) hC36 (by omega)
               have hy36 : y173.length = (x5_1 : Int).toNat := (by rw [Ny173.out, List.length_take]; omega)
               rw [← Ny173.out] at hr36
               rw [← hy36] at hcut36
               have HO177 := zk (show Kd.V (Kd.slice 3 (Kd.int .i64)) 22 _ w.heap.size _ (.slice A0 y173.length c0) y173 from Kd.V_mk (by omega) hr36)
               have HC177 := zk (show y173.length ≤ c0 from by omega)
               clear hr36 hC36 hroom36 hi036 hsz36
               have KY36 := zk hy36
               clear hy36
               replace q36 := eq_true q36
               have q37 : (x5_1 : Int) ≤ ((l0.length : Int) : Int) := zo (by assumption)
               obtain ⟨i037, hi037, _, hsz37, _⟩ := info_parts info22
               have hroom37 : l0.length ≤ c0 := (Kd.V_reads' HO_0.out).2.1
               have hC37 : Kd.F (Kd.slice 3 (Kd.int .i64)) _ _ A0 l0.length l0 := (Kd.V_at (base := w.heap.size) HO_0.out).2.2
               have q037 : (0 : Int) ≤ (x5_1 : Int) := zo (by assumption)
               have hcut37 := cut_from (P := Try.prog) 28 22 .i64 Try.underlying28 hi037 1 hsz37 A0 l0.length c0 x5_1 q037 q37
               have hr37 := Kd.F_cut (m := (x5_1 : Int).toNat) (c := c0) hC37 (by omega) hroom37
               obtain ⟨A37, hA37⟩ : ∃ A1, A1 = (if c0 = (x5_1 : Int).toNat then A0 else (A0 : Option Addr).map (·.add ((x5_1 : Int).toNat * 1))) := ⟨_, rfl⟩
               obtain ⟨c37, hc37⟩ : ∃ c1, c1 = c0 - (x5_1 : Int).toNat := ⟨_, rfl⟩
               have hy37 : y187.length = l0.length - (x5_1 : Int).toNat := (by rw [Ny187.out, List.length_drop] <;> omega)
               rw [show (l0).drop (x5_1 : Int).toNat = y187 from Ny187.out.symm] at hr37
               replace hr37 : Kd.F (Kd.slice 3 (Kd.int .i64)) _ _ A37 y187.length y187 := (by rw [hA37]; exact hr37)
               rw [← hy37, ← hA37, ← hc37] at hcut37
               have HO191 := zk (show Kd.V (Kd.slice 3 (Kd.int .i64)) 22 _ w.heap.size _ (.slice A37 y187.length c37) y187 from Kd.V_mk (by rw [hy37, hc37]; exact Nat.sub_le_sub_right hroom37 _) hr37)
               have HC191 := zk (show y187.length ≤ c37 from by rw [hy37, hc37]; exact Nat.sub_le_sub_right hroom37 _)
               clear hr37 hC37 hroom37 hi037 hsz37 hc37
               have KY37 := zk hy37
               have KA37 := zk hA37
               clear hy37 hA37
               replace q37 := eq_true q37
               refine start_ (n := 13) (S := fun w' => True) (ds := []) #[false, false, false, false, false, false, false, false, false, false, false, false, false] (by kernel_rfl) rfl rfl trivial (fun hHeld => ?_); refine with_tabW spec_l2PutOrder.tab6 spec_l2PutOrder.bits6 (fun HT_ HW_ => ?_)
               generalize wr.drew = w35 at HO_0 HO_1 HB HO177 HO191 hHeld ⊢
               refine pure_ (i := 1) (N := some 34) (v := ?_) (a' := ?_) #[false, true, false, false, false, false, false, false, false, false, false, false, false] rfl rfl (any_of HT_.out (by kernel_rfl)) (fun _ _ _ h => h) (Or.inl ⟨by rfl, ?_⟩) ?_ ?_
               rotate_left
               · intro w'
                 go_simp
                 with_reducible rfl
               rotate_left
               · simp only [Act.put, List.setIfInBounds_toArray, List.set_cons_zero, List.set_cons_succ, i64_w, i32_w]
                 rfl
               refine pure_ (i := 2) (N := some 35) (v := ?_) (a' := ?_) #[false, true, true, false, false, false, false, false, false, false, false, false, false] rfl rfl (any_of HT_.out (by kernel_rfl)) (fun _ _ _ h => h) (Or.inl ⟨by rfl, ?_⟩) ?_ ?_
               rotate_left
               · intro w'
                 go_simp
                 with_reducible rfl
               rotate_left
               · simp only [Act.put, List.setIfInBounds_toArray, List.set_cons_zero, List.set_cons_succ, i64_w, i32_w]
                 rfl
               refine pure_ (i := 3) (N := some 36) (v := ?_) (a' := ?_) #[false, true, true, true, false, false, false, false, false, false, false, false, false] rfl rfl (any_of HT_.out (by kernel_rfl)) (fun _ _ _ h => h) (Or.inl ⟨by rfl, ?_⟩) ?_ ?_
               rotate_left
               · intro w'
                 go_simp
                 with_reducible rfl
               rotate_left
               · simp only [Act.put, List.setIfInBounds_toArray, List.set_cons_zero, List.set_cons_succ, i64_w, i32_w]
                 rfl
               refine pure_ (i := 5) (N := some 38) (v := ?_) (a' := ?_) #[false, true, true, true, false, true, false, false, false, false, false, false, false] rfl rfl (any_of HT_.out (by kernel_rfl)) (fun _ _ _ h => h) (Or.inl ⟨by rfl, ?_⟩) ?_ ?_
               rotate_left
               · intro w'
                 go_simp
                 with_reducible rfl
               rotate_left
               · simp only [Act.put, List.setIfInBounds_toArray, List.set_cons_zero, List.set_cons_succ, i64_w, i32_w]
                 rfl
               refine pure_ (i := 8) (N := some 41) (v := ?_) (a' := ?_) #[false, true, true, true, false, true, false, false, true, false, false, false, false] rfl rfl (any_of HT_.out (by kernel_rfl)) (fun _ _ _ h => h) (Or.inl ⟨by rfl, ?_⟩) ?_ ?_
               rotate_left
               · intro w'
                 go_simp
                 with_reducible rfl
               rotate_left
               · simp only [Act.put, List.setIfInBounds_toArray, List.set_cons_zero, List.set_cons_succ, i64_w, i32_w]
                 rfl
               refine pure_ (i := 9) (N := some 42) (v := ?_) (a' := ?_) #[false, true, true, true, false, true, false, false, true, true, false, false, false] rfl rfl (any_of HT_.out (by kernel_rfl)) (fun _ _ _ h => h) (Or.inl ⟨by rfl, ?_⟩) ?_ ?_
               rotate_left
               · intro w'
                 go_simp
                 with_reducible rfl
               rotate_left
               · simp only [Act.put, List.setIfInBounds_toArray, List.set_cons_zero, List.set_cons_succ, i64_w, i32_w]
                 rfl
               refine pure_ (i := 10) (N := some 43) (v := ?_) (a' := ?_) #[false, true, true, true, false, true, false, false, true, true, true, false, false] rfl rfl (any_of HT_.out (by kernel_rfl)) (fun _ _ _ h => h) (Or.inl ⟨by rfl, ?_⟩) ?_ ?_
               rotate_left
               · intro w'
                 go_simp
                 with_reducible rfl
               rotate_left
               · simp only [Act.put, List.setIfInBounds_toArray, List.set_cons_zero, List.set_cons_succ, i64_w, i32_w]
                 rfl
               refine join_ (σ := Value × Value × Value) 3 #[true, true, true, true, true, true, true, false, true, true, true, false, false] (fun s_ => [(33, s_.1), (37, s_.2.1), (39, s_.2.2)]) (fun s_ w' => (Kd.V (Kd.slice 3 (Kd.int .i64)) 22 w' w.heap.size (fun k_ => ((P0_ k_ ∨ P1_ k_) ∨ w.heap.size ≤ k_) ∧ some k_ ≠ (s_.2.1 : Value).ownBlock ∧ some k_ ≠ (s_.2.2 : Value).ownBlock) (.slice A0 y173.length c0) y173) ∧ (Kd.N (Kd.slice 3 (Kd.int .i64)) 22 w' w.heap.size (fun k_ => ((P0_ k_ ∨ P1_ k_) ∨ w.heap.size ≤ k_) ∧ some k_ ≠ (s_.2.2 : Value).ownBlock) s_.2.1 y178) ∧ (Kd.N (Kd.slice 3 (Kd.int .i64)) 22 w' w.heap.size (fun k_ => ((P0_ k_ ∨ P1_ k_) ∨ w.heap.size ≤ k_) ∧ some k_ ≠ (s_.2.1 : Value).ownBlock) s_.2.2 y181) ∧ (Kd.V (Kd.slice 3 (Kd.int .i64)) 22 w' w.heap.size (fun k_ => ((P0_ k_ ∨ P1_ k_) ∨ w.heap.size ≤ k_) ∧ some k_ ≠ (s_.2.1 : Value).ownBlock ∧ some k_ ≠ (s_.2.2 : Value).ownBlock) (.slice A37 y187.length c37) y187) ∧ (Kd.V (Kd.slice 3 (Kd.int .i64)) 22 w' w.heap.size (fun k_ => ((P0_ k_ ∨ P1_ k_) ∨ w.heap.size ≤ k_) ∧ some k_ ≠ (s_.2.1 : Value).ownBlock ∧ some k_ ≠ (s_.2.2 : Value).ownBlock) (.slice A0 l0.length c0) l0) ∧ (Kd.V (Kd.int .i64) 3 w' w.heap.size (fun k_ => ((P0_ k_ ∨ P1_ k_) ∨ w.heap.size ≤ k_) ∧ some k_ ≠ (s_.2.1 : Value).ownBlock ∧ some k_ ≠ (s_.2.2 : Value).ownBlock) (.slice A1 l1.length c1) l1) ∧ (Below w.heap.size w w')) ?_ ?_
               rotate_left
               · intro hCont
                 refine two_ (i := 0) (j := 6) (Ni := some 33) (Nj := some 39) #[true, true, true, true, false, true, false, false, true, true, true, false, false] #[false, true, true, true, false, true, true, false, true, true, true, false, false] rfl rfl rfl rfl (two_of HT_.out (by kernel_rfl)) (by decide) (by decide) (fun K hK => ?_) (fun K hK => ?_)
                 · skip
                   refine Kd.N_lit_step (Kd.slice 3 (Kd.int .i64)) _ 22 ?hg (N' := 33) ?hd (xs := ([] : List (List Int))) (inner := []) (ok := (fun k_ => ((P0_ k_ ∨ P1_ k_) ∨ w.heap.size ≤ k_))) (okp := (fun k_ => ((P0_ k_ ∨ P1_ k_) ∨ w.heap.size ≤ k_))) ?hr ?hp (fun _ hk => hk) ((show ∀ k_, w35.heap.size ≤ k_ → (fun k_ => ((P0_ k_ ∨ P1_ k_) ∨ w.heap.size ≤ k_)) k_ from fun k_ hk => (.inr (Nat.le_trans (below_size (by repeat (first | exact HB.out | apply za | apply zd | apply ze))) hk))) _ (Nat.le_refl _)) (Below.refl _ _) (Nat.le_refl _) (by simp) ?_; (case hd => rfl); (case hg => rfl); (case hr => first | (go_simp; done) | (go_simp; rfl)); (case hp => exact (Reps.none _ _))
                   intro v171 w38 ho39 hb hg_ hnew_
                   clear hg_ hnew_
                   (first | rw [← Ny170.out] at ho39 | (simp only [Int.reduceToNat] at ho39; rw [← Ny170.out] at ho39))
                   have n0_ := zk (Kd.V_elder' (by (with_reducible repeat (first | apply Kd.V_alloc | apply Kd.V_drewN | apply Kd.V_drew)); exact HO_0.out) (by first | exact Kd.N_base ho39 | exact Kd.S_base ho39 | exact Kd.R_base ho39) hb)
                   have n1_ := zk (Kd.V_elder' (by (with_reducible repeat (first | apply Kd.V_alloc | apply Kd.V_drewN | apply Kd.V_drew)); exact HO_1.out) (by first | exact Kd.N_base ho39 | exact Kd.S_base ho39 | exact Kd.R_base ho39) hb)
                   have n2_ := zk (Kd.V_elder' (by (with_reducible repeat (first | apply Kd.V_alloc | apply Kd.V_drewN | apply Kd.V_drew)); exact HO177.out) (by first | exact Kd.N_base ho39 | exact Kd.S_base ho39 | exact Kd.R_base ho39) hb)
                   have n3_ := zk (Kd.V_elder' (by (with_reducible repeat (first | apply Kd.V_alloc | apply Kd.V_drewN | apply Kd.V_drew)); exact HO191.out) (by first | exact Kd.N_base ho39 | exact Kd.S_base ho39 | exact Kd.R_base ho39) hb)
                   have n4_ := zk (Kd.N_lower ho39 (below_size (by repeat (first | exact HB.out | apply za | apply zd | apply ze))))
                   have n5_ := zk (below_step (by repeat (first | exact HB.out | apply za | apply zd | apply ze)) hb)
                   clear HO_0
                   clear HO_1
                   clear HO177
                   clear HO191
                   clear HB
                   have HO_0 := n0_
                   have HO_1 := n1_
                   have HO177 := n2_
                   have HO191 := n3_
                   have HO172 := n4_
                   have HB := n5_
                   clear n0_ n1_ n2_ n3_ n4_ n5_
                   clear hb ho39
                   refine hK.out _ _ trivial (fun hHeld => ?_)
                   clear hK K
                   refine norm_ (a' := ?_) ?_ ?_
                   rotate_left
                   · show Act.put _ (some 33) _ = _
                     simp only [Act.put, List.setIfInBounds_toArray, List.set_cons_zero, List.set_cons_succ, i64_w, i32_w]
                     rfl
                   refine two_ (i := 4) (j := 6) (Ni := some 37) (Nj := some 39) #[true, true, true, true, true, true, false, false, true, true, true, false, false] #[true, true, true, true, false, true, true, false, true, true, true, false, false] rfl rfl rfl rfl (two_of HT_.out (by kernel_rfl)) (by decide) (by decide) (fun K hK => ?_) (fun K hK => ?_)
                   · skip
                     refine Kd.N_append_rows_step (Kd.slice 3 (Kd.int .i64)) (w0 := w) w.heap.size (by rfl) (.tmp 33) (.tmp 36) 28 22 (.slice none 0 0) 24 rfl Try.underlying28 info22 rfl (by decide) (by omega) v171 y170 y173 _ _ _ (fun k_ => ((P0_ k_ ∨ P1_ k_) ∨ w.heap.size ≤ k_)) (fun k_ => ((fun k_ => ((P0_ k_ ∨ P1_ k_) ∨ w.heap.size ≤ k_))) k_ ∧ some k_ ≠ (v171 : Value).ownBlock) rfl rfl ?aO ?aR (fun _ hk => hk) ?aF ?aB ?aS ?aL ?_
                     (case aR => exact (by skip; exact Kd.V_F (by (with_reducible repeat (first | apply Kd.V_alloc | apply Kd.V_drewN | apply Kd.V_drew)); exact Kd.V_mono (ok' := (fun k_ => ((fun k_ => ((P0_ k_ ∨ P1_ k_) ∨ w.heap.size ≤ k_))) k_ ∧ some k_ ≠ (v171 : Value).ownBlock)) (HO177.out) (fun k_ hk => ⟨hk.1, hk.2⟩))))
                     (case aB => exact (by repeat (first | exact HB.out | apply za | apply zd | apply ze)))
                     (case aF => exact (fun k_ hk => (.inr (Nat.le_trans (below_size (by repeat (first | exact HB.out | apply za | apply zd | apply ze))) hk))))
                     (case aO => exact (by (with_reducible repeat (first | apply Kd.N_alloc | apply Kd.N_drewN | apply Kd.N_drew)); exact HO172.out))
                     (case aS => exact (below_size (by repeat (first | exact HB.out | apply za | apply zd | apply ze))))
                     (case aL => have := LMc30.out; omega)
                     intro v179 w40 ho hb hg hat
                     rw [← Ny178.out] at ho
                     have n0_ := zk (Kd.V_afterv (ok := (fun k_ => ((P0_ k_ ∨ P1_ k_) ∨ w.heap.size ≤ k_))) (by (with_reducible repeat (first | apply Kd.V_alloc | apply Kd.V_drewN | apply Kd.V_drew)); exact HO_0.out) hg hat)
                     have n1_ := zk (Kd.V_afterv (ok := (fun k_ => ((P0_ k_ ∨ P1_ k_) ∨ w.heap.size ≤ k_))) (by (with_reducible repeat (first | apply Kd.V_alloc | apply Kd.V_drewN | apply Kd.V_drew)); exact HO_1.out) hg hat)
                     have n2_ := zk (Kd.V_afterv (ok := (fun k_ => ((P0_ k_ ∨ P1_ k_) ∨ w.heap.size ≤ k_))) (by (with_reducible repeat (first | apply Kd.V_alloc | apply Kd.V_drewN | apply Kd.V_drew)); exact HO177.out) hg hat)
                     have n3_ := zk (Kd.V_afterv (ok := (fun k_ => ((P0_ k_ ∨ P1_ k_) ∨ w.heap.size ≤ k_))) (by (with_reducible repeat (first | apply Kd.V_alloc | apply Kd.V_drewN | apply Kd.V_drew)); exact HO191.out) hg hat)
                     have n4_ := zk (hb)
                     have n5_ := zk (ho)
                     clear HO_0
                     clear HO_1
                     clear HO177
                     clear HO191
                     clear HB
                     clear HO172
                     have HO_0 := n0_
                     have HO_1 := n1_
                     have HO177 := n2_
                     have HO191 := n3_
                     have HB := n4_
                     have HO180 := n5_
                     clear n0_ n1_ n2_ n3_ n4_ n5_
                     clear ho hb hg hat
                     refine hK.out _ _ trivial (fun hHeld => ?_)
                     clear hK K
                     refine norm_ (a' := ?_) ?_ ?_
                     rotate_left
                     · show Act.put _ (some 37) _ = _
                       simp only [Act.put, List.setIfInBounds_toArray, List.set_cons_zero, List.set_cons_succ, i64_w, i32_w]
                       rfl
                     refine one_ (i := 6) (N := some 39) #[true, true, true, true, true, true, true, false, true, true, true, false, false] rfl rfl (one_of HT_.out (by kernel_rfl)) (by decide) (fun K hK => ?_)
                     refine Kd.N_lit_step (Kd.slice 3 (Kd.int .i64)) _ 22 ?hg (N' := 39) ?hd (xs := ([l1] : List (List Int))) (inner := [.slice A1 l1.length c1]) (ok := (fun k_ => ((P0_ k_ ∨ P1_ k_) ∨ w.heap.size ≤ k_) ∧ some k_ ≠ (v179 : Value).ownBlock)) (okp := (fun k_ => ((P0_ k_ ∨ P1_ k_) ∨ w.heap.size ≤ k_) ∧ some k_ ≠ (v179 : Value).ownBlock)) ?hr ?hp (fun _ hk => hk) ((show ∀ k_, w40.heap.size ≤ k_ → (fun k_ => ((P0_ k_ ∨ P1_ k_) ∨ w.heap.size ≤ k_) ∧ some k_ ≠ (v179 : Value).ownBlock) k_ from fun k_ hk => ⟨(.inr (Nat.le_trans (below_size (by repeat (first | exact HB.out | apply za | apply zd | apply ze))) hk)), Kd.fresh' (Kd.N_lt (by (with_reducible repeat (first | apply Kd.N_alloc | apply Kd.N_drewN | apply Kd.N_drew)); exact HO180.out)) k_ hk⟩) _ (Nat.le_refl _)) (Below.refl _ _) (Nat.le_refl _) (by simp) ?_; (case hd => rfl); (case hg => rfl); (case hr => first | (go_simp; done) | (go_simp; rfl)); (case hp => exact (Reps.one (show Kd.FK (Kd.slice 3 (Kd.int .i64)) _ _ l1 [.slice A1 l1.length c1] from (Kd.FK_slice_mk (Kd.V_reads' (Kd.V_mono (ok' := (fun k_ => ((P0_ k_ ∨ P1_ k_) ∨ w.heap.size ≤ k_) ∧ some k_ ≠ (v179 : Value).ownBlock)) (HO_1.out) (fun k_ hk => ⟨hk.1, hk.2⟩))).2.1 (Kd.V_F (by (with_reducible repeat (first | apply Kd.V_alloc | apply Kd.V_drewN | apply Kd.V_drew)); exact Kd.V_mono (ok' := (fun k_ => ((P0_ k_ ∨ P1_ k_) ∨ w.heap.size ≤ k_) ∧ some k_ ≠ (v179 : Value).ownBlock)) (HO_1.out) (fun k_ hk => ⟨hk.1, hk.2⟩))))) (Reps.none _ _)))
                     intro v182 w41 ho42 hb hg_ hnew_
                     clear hg_ hnew_
                     (first | rw [← Ny181.out] at ho42 | (simp only [Int.reduceToNat] at ho42; rw [← Ny181.out] at ho42))
                     have n0_ := zk (Kd.V_elder' (by (with_reducible repeat (first | apply Kd.V_alloc | apply Kd.V_drewN | apply Kd.V_drew)); exact HO_0.out) (by first | exact Kd.N_base ho42 | exact Kd.S_base ho42 | exact Kd.R_base ho42) hb)
                     have n1_ := zk (Kd.V_elder' (by (with_reducible repeat (first | apply Kd.V_alloc | apply Kd.V_drewN | apply Kd.V_drew)); exact HO_1.out) (by first | exact Kd.N_base ho42 | exact Kd.S_base ho42 | exact Kd.R_base ho42) hb)
                     have n2_ := zk (Kd.V_elder' (by (with_reducible repeat (first | apply Kd.V_alloc | apply Kd.V_drewN | apply Kd.V_drew)); exact HO177.out) (by first | exact Kd.N_base ho42 | exact Kd.S_base ho42 | exact Kd.R_base ho42) hb)
                     have n3_ := zk (Kd.V_elder' (by (with_reducible repeat (first | apply Kd.V_alloc | apply Kd.V_drewN | apply Kd.V_drew)); exact HO191.out) (by first | exact Kd.N_base ho42 | exact Kd.S_base ho42 | exact Kd.R_base ho42) hb)
                     have n4_ := zk (Kd.N_elder' (by (with_reducible repeat (first | apply Kd.N_alloc | apply Kd.N_drewN | apply Kd.N_drew)); exact HO180.out) (by first | exact Kd.N_base ho42 | exact Kd.S_base ho42 | exact Kd.R_base ho42) hb)
                     have n5_ := zk (Kd.N_lower ho42 (below_size (by repeat (first | exact HB.out | apply za | apply zd | apply ze))))
                     have n6_ := zk (below_step (by repeat (first | exact HB.out | apply za | apply zd | apply ze)) hb)
                     clear HO_0
                     clear HO_1
                     clear HO177
                     clear HO191
                     clear HO180
                     clear HB
                     have HO_0 := n0_
                     have HO_1 := n1_
                     have HO177 := n2_
                     have HO191 := n3_
                     have HO180 := n4_
                     have HO183 := n5_
                     have HB := n6_
                     clear n0_ n1_ n2_ n3_ n4_ n5_ n6_
                     clear hb ho42
                     refine hK.out _ _ trivial (fun hHeld => ?_)
                     clear hK K
                     refine norm_ (a' := ?_) ?_ ?_
                     rotate_left
                     · show Act.put _ (some 39) _ = _
                       simp only [Act.put, List.setIfInBounds_toArray, List.set_cons_zero, List.set_cons_succ, i64_w, i32_w]
                       rfl
                     exact norm_ (by simp only [putAll, Act.put, List.setIfInBounds_toArray, List.set_cons_zero, List.set_cons_succ]) (hCont (v171, v179, v182) _ ⟨(by (with_reducible repeat (first | apply Kd.V_alloc | apply Kd.V_drewN | apply Kd.V_drew)); exact Kd.V_mono HO177.out (fun _ hk => ⟨hk.1.1, ⟨hk.1.2, hk.2⟩⟩)), (by (with_reducible repeat (first | apply Kd.N_alloc | apply Kd.N_drewN | apply Kd.N_drew)); exact HO180.out), (by (with_reducible repeat (first | apply Kd.N_alloc | apply Kd.N_drewN | apply Kd.N_drew)); exact HO183.out), (by (with_reducible repeat (first | apply Kd.V_alloc | apply Kd.V_drewN | apply Kd.V_drew)); exact Kd.V_mono HO191.out (fun _ hk => ⟨hk.1.1, ⟨hk.1.2, hk.2⟩⟩)), (by (with_reducible repeat (first | apply Kd.V_alloc | apply Kd.V_drewN | apply Kd.V_drew)); exact Kd.V_mono HO_0.out (fun _ hk => ⟨hk.1.1, ⟨hk.1.2, hk.2⟩⟩)), (by (with_reducible repeat (first | apply Kd.V_alloc | apply Kd.V_drewN | apply Kd.V_drew)); exact Kd.V_mono HO_1.out (fun _ hk => ⟨hk.1.1, ⟨hk.1.2, hk.2⟩⟩)), (by repeat (first | exact HB.out | apply za | apply zd | apply ze))⟩)
                   · skip
                     refine Kd.N_lit_step (Kd.slice 3 (Kd.int .i64)) _ 22 ?hg (N' := 39) ?hd (xs := ([l1] : List (List Int))) (inner := [.slice A1 l1.length c1]) (ok := (fun k_ => ((P0_ k_ ∨ P1_ k_) ∨ w.heap.size ≤ k_) ∧ some k_ ≠ (v171 : Value).ownBlock)) (okp := (fun k_ => ((P0_ k_ ∨ P1_ k_) ∨ w.heap.size ≤ k_) ∧ some k_ ≠ (v171 : Value).ownBlock)) ?hr ?hp (fun _ hk => hk) ((show ∀ k_, w38.heap.size ≤ k_ → (fun k_ => ((P0_ k_ ∨ P1_ k_) ∨ w.heap.size ≤ k_) ∧ some k_ ≠ (v171 : Value).ownBlock) k_ from fun k_ hk => ⟨(.inr (Nat.le_trans (below_size (by repeat (first | exact HB.out | apply za | apply zd | apply ze))) hk)), Kd.fresh' (Kd.N_lt (by (with_reducible repeat (first | apply Kd.N_alloc | apply Kd.N_drewN | apply Kd.N_drew)); exact HO172.out)) k_ hk⟩) _ (Nat.le_refl _)) (Below.refl _ _) (Nat.le_refl _) (by simp) ?_; (case hd => rfl); (case hg => rfl); (case hr => first | (go_simp; done) | (go_simp; rfl)); (case hp => exact (Reps.one (show Kd.FK (Kd.slice 3 (Kd.int .i64)) _ _ l1 [.slice A1 l1.length c1] from (Kd.FK_slice_mk (Kd.V_reads' (Kd.V_mono (ok' := (fun k_ => ((P0_ k_ ∨ P1_ k_) ∨ w.heap.size ≤ k_) ∧ some k_ ≠ (v171 : Value).ownBlock)) (HO_1.out) (fun k_ hk => ⟨hk.1, hk.2⟩))).2.1 (Kd.V_F (by (with_reducible repeat (first | apply Kd.V_alloc | apply Kd.V_drewN | apply Kd.V_drew)); exact Kd.V_mono (ok' := (fun k_ => ((P0_ k_ ∨ P1_ k_) ∨ w.heap.size ≤ k_) ∧ some k_ ≠ (v171 : Value).ownBlock)) (HO_1.out) (fun k_ hk => ⟨hk.1, hk.2⟩))))) (Reps.none _ _)))
                     intro v182 w40 ho41 hb hg_ hnew_
                     clear hg_ hnew_
                     (first | rw [← Ny181.out] at ho41 | (simp only [Int.reduceToNat] at ho41; rw [← Ny181.out] at ho41))
                     have n0_ := zk (Kd.V_elder' (by (with_reducible repeat (first | apply Kd.V_alloc | apply Kd.V_drewN | apply Kd.V_drew)); exact HO_0.out) (by first | exact Kd.N_base ho41 | exact Kd.S_base ho41 | exact Kd.R_base ho41) hb)
                     have n1_ := zk (Kd.V_elder' (by (with_reducible repeat (first | apply Kd.V_alloc | apply Kd.V_drewN | apply Kd.V_drew)); exact HO_1.out) (by first | exact Kd.N_base ho41 | exact Kd.S_base ho41 | exact Kd.R_base ho41) hb)
                     have n2_ := zk (Kd.V_elder' (by (with_reducible repeat (first | apply Kd.V_alloc | apply Kd.V_drewN | apply Kd.V_drew)); exact HO177.out) (by first | exact Kd.N_base ho41 | exact Kd.S_base ho41 | exact Kd.R_base ho41) hb)
                     have n3_ := zk (Kd.V_elder' (by (with_reducible repeat (first | apply Kd.V_alloc | apply Kd.V_drewN | apply Kd.V_drew)); exact HO191.out) (by first | exact Kd.N_base ho41 | exact Kd.S_base ho41 | exact Kd.R_base ho41) hb)
                     have n4_ := zk (Kd.N_elder' (by (with_reducible repeat (first | apply Kd.N_alloc | apply Kd.N_drewN | apply Kd.N_drew)); exact HO172.out) (by first | exact Kd.N_base ho41 | exact Kd.S_base ho41 | exact Kd.R_base ho41) hb)
                     have n5_ := zk (Kd.N_lower ho41 (below_size (by repeat (first | exact HB.out | apply za | apply zd | apply ze))))
                     have n6_ := zk (below_step (by repeat (first | exact HB.out | apply za | apply zd | apply ze)) hb)
                     clear HO_0
                     clear HO_1
                     clear HO177
                     clear HO191
                     clear HO172
                     clear HB
                     have HO_0 := n0_
                     have HO_1 := n1_
                     have HO177 := n2_
                     have HO191 := n3_
                     have HO172 := n4_
                     have HO183 := n5_
                     have HB := n6_
                     clear n0_ n1_ n2_ n3_ n4_ n5_ n6_
                     clear hb ho41
                     refine hK.out _ _ trivial (fun hHeld => ?_)
                     clear hK K
                     refine norm_ (a' := ?_) ?_ ?_
                     rotate_left
                     · show Act.put _ (some 39) _ = _
                       simp only [Act.put, List.setIfInBounds_toArray, List.set_cons_zero, List.set_cons_succ, i64_w, i32_w]
                       rfl
                     refine one_ (i := 4) (N := some 37) #[true, true, true, true, true, true, true, false, true, true, true, false, false] rfl rfl (one_of HT_.out (by kernel_rfl)) (by decide) (fun K hK => ?_)
                     refine Kd.N_append_rows_step (Kd.slice 3 (Kd.int .i64)) (w0 := w) w.heap.size (by rfl) (.tmp 33) (.tmp 36) 28 22 (.slice none 0 0) 24 rfl Try.underlying28 info22 rfl (by decide) (by omega) v171 y170 y173 _ _ _ (fun k_ => ((P0_ k_ ∨ P1_ k_) ∨ w.heap.size ≤ k_) ∧ some k_ ≠ (v182 : Value).ownBlock) (fun k_ => ((fun k_ => ((P0_ k_ ∨ P1_ k_) ∨ w.heap.size ≤ k_) ∧ some k_ ≠ (v182 : Value).ownBlock)) k_ ∧ some k_ ≠ (v171 : Value).ownBlock) rfl rfl ?aO ?aR (fun _ hk => hk) ?aF ?aB ?aS ?aL ?_
                     (case aR => exact (by skip; exact Kd.V_F (by (with_reducible repeat (first | apply Kd.V_alloc | apply Kd.V_drewN | apply Kd.V_drew)); exact Kd.V_mono (ok' := (fun k_ => ((fun k_ => ((P0_ k_ ∨ P1_ k_) ∨ w.heap.size ≤ k_) ∧ some k_ ≠ (v182 : Value).ownBlock)) k_ ∧ some k_ ≠ (v171 : Value).ownBlock)) (HO177.out) (fun k_ hk => ⟨⟨hk.1.1, hk.2⟩, hk.1.2⟩))))
                     (case aB => exact (by repeat (first | exact HB.out | apply za | apply zd | apply ze)))
                     (case aF => exact (fun k_ hk => ⟨(.inr (Nat.le_trans (below_size (by repeat (first | exact HB.out | apply za | apply zd | apply ze))) hk)), Kd.fresh' (Kd.N_lt (by (with_reducible repeat (first | apply Kd.N_alloc | apply Kd.N_drewN | apply Kd.N_drew)); exact HO183.out)) k_ hk⟩))
                     (case aO => exact (by (with_reducible repeat (first | apply Kd.N_alloc | apply Kd.N_drewN | apply Kd.N_drew)); exact HO172.out))
                     (case aS => exact (below_size (by repeat (first | exact HB.out | apply za | apply zd | apply ze))))
                     (case aL => have := LMc30.out; omega)
                     intro v179 w42 ho hb hg hat
                     rw [← Ny178.out] at ho
                     have n0_ := zk (Kd.V_afterv (ok := (fun k_ => ((P0_ k_ ∨ P1_ k_) ∨ w.heap.size ≤ k_) ∧ some k_ ≠ (v182 : Value).ownBlock)) (by (with_reducible repeat (first | apply Kd.V_alloc | apply Kd.V_drewN | apply Kd.V_drew)); first | exact Kd.V_mono HO_0.out (fun _ hk => ⟨⟨hk.1.1, hk.2⟩, hk.1.2⟩) | exact Kd.V_mono HO_0.out (fun k_ hk => by (have own_ : ∀ (A : Option Addr) (n c : Nat), (Value.slice A n c).ownBlock = A.map Addr.block := fun A n c => by cases A <;> rfl); simp only [own_] at hk ⊢; exact ⟨⟨hk.1.1, hk.2⟩, hk.1.2⟩)) hg hat)
                     have n1_ := zk (Kd.V_afterv (ok := (fun k_ => ((P0_ k_ ∨ P1_ k_) ∨ w.heap.size ≤ k_) ∧ some k_ ≠ (v182 : Value).ownBlock)) (by (with_reducible repeat (first | apply Kd.V_alloc | apply Kd.V_drewN | apply Kd.V_drew)); first | exact Kd.V_mono HO_1.out (fun _ hk => ⟨⟨hk.1.1, hk.2⟩, hk.1.2⟩) | exact Kd.V_mono HO_1.out (fun k_ hk => by (have own_ : ∀ (A : Option Addr) (n c : Nat), (Value.slice A n c).ownBlock = A.map Addr.block := fun A n c => by cases A <;> rfl); simp only [own_] at hk ⊢; exact ⟨⟨hk.1.1, hk.2⟩, hk.1.2⟩)) hg hat)
                     have n2_ := zk (Kd.V_afterv (ok := (fun k_ => ((P0_ k_ ∨ P1_ k_) ∨ w.heap.size ≤ k_) ∧ some k_ ≠ (v182 : Value).ownBlock)) (by (with_reducible repeat (first | apply Kd.V_alloc | apply Kd.V_drewN | apply Kd.V_drew)); first | exact Kd.V_mono HO177.out (fun _ hk => ⟨⟨hk.1.1, hk.2⟩, hk.1.2⟩) | exact Kd.V_mono HO177.out (fun k_ hk => by (have own_ : ∀ (A : Option Addr) (n c : Nat), (Value.slice A n c).ownBlock = A.map Addr.block := fun A n c => by cases A <;> rfl); simp only [own_] at hk ⊢; exact ⟨⟨hk.1.1, hk.2⟩, hk.1.2⟩)) hg hat)
                     have n3_ := zk (Kd.V_afterv (ok := (fun k_ => ((P0_ k_ ∨ P1_ k_) ∨ w.heap.size ≤ k_) ∧ some k_ ≠ (v182 : Value).ownBlock)) (by (with_reducible repeat (first | apply Kd.V_alloc | apply Kd.V_drewN | apply Kd.V_drew)); first | exact Kd.V_mono HO191.out (fun _ hk => ⟨⟨hk.1.1, hk.2⟩, hk.1.2⟩) | exact Kd.V_mono HO191.out (fun k_ hk => by (have own_ : ∀ (A : Option Addr) (n c : Nat), (Value.slice A n c).ownBlock = A.map Addr.block := fun A n c => by cases A <;> rfl); simp only [own_] at hk ⊢; exact ⟨⟨hk.1.1, hk.2⟩, hk.1.2⟩)) hg hat)
                     have n4_ := zk (Kd.N_afterv (ok := (fun k_ => ((P0_ k_ ∨ P1_ k_) ∨ w.heap.size ≤ k_))) (by (with_reducible repeat (first | apply Kd.N_alloc | apply Kd.N_drewN | apply Kd.N_drew)); exact HO183.out) hg hat)
                     have n5_ := zk (hb)
                     have n6_ := zk (ho)
                     clear HO_0
                     clear HO_1
                     clear HO177
                     clear HO191
                     clear HO183
                     clear HB
                     clear HO172
                     have HO_0 := n0_
                     have HO_1 := n1_
                     have HO177 := n2_
                     have HO191 := n3_
                     have HO183 := n4_
                     have HB := n5_
                     have HO180 := n6_
                     clear n0_ n1_ n2_ n3_ n4_ n5_ n6_
                     clear ho hb hg hat
                     refine hK.out _ _ trivial (fun hHeld => ?_)
                     clear hK K
                     refine norm_ (a' := ?_) ?_ ?_
                     rotate_left
                     · show Act.put _ (some 37) _ = _
                       simp only [Act.put, List.setIfInBounds_toArray, List.set_cons_zero, List.set_cons_succ, i64_w, i32_w]
                       rfl
                     exact norm_ (by simp only [putAll, Act.put, List.setIfInBounds_toArray, List.set_cons_zero, List.set_cons_succ]) (hCont (v171, v179, v182) _ ⟨(by (with_reducible repeat (first | apply Kd.V_alloc | apply Kd.V_drewN | apply Kd.V_drew)); exact Kd.V_mono HO177.out (fun _ hk => ⟨hk.1.1, ⟨hk.2, hk.1.2⟩⟩)), (by (with_reducible repeat (first | apply Kd.N_alloc | apply Kd.N_drewN | apply Kd.N_drew)); exact HO180.out), (by (with_reducible repeat (first | apply Kd.N_alloc | apply Kd.N_drewN | apply Kd.N_drew)); exact HO183.out), (by (with_reducible repeat (first | apply Kd.V_alloc | apply Kd.V_drewN | apply Kd.V_drew)); exact Kd.V_mono HO191.out (fun _ hk => ⟨hk.1.1, ⟨hk.2, hk.1.2⟩⟩)), (by (with_reducible repeat (first | apply Kd.V_alloc | apply Kd.V_drewN | apply Kd.V_drew)); exact Kd.V_mono HO_0.out (fun _ hk => ⟨hk.1.1, ⟨hk.2, hk.1.2⟩⟩)), (by (with_reducible repeat (first | apply Kd.V_alloc | apply Kd.V_drewN | apply Kd.V_drew)); exact Kd.V_mono HO_1.out (fun _ hk => ⟨hk.1.1, ⟨hk.2, hk.1.2⟩⟩)), (by repeat (first | exact HB.out | apply za | apply zd | apply ze))⟩)
                 · skip
                   refine Kd.N_lit_step (Kd.slice 3 (Kd.int .i64)) _ 22 ?hg (N' := 39) ?hd (xs := ([l1] : List (List Int))) (inner := [.slice A1 l1.length c1]) (ok := (fun k_ => ((P0_ k_ ∨ P1_ k_) ∨ w.heap.size ≤ k_))) (okp := (fun k_ => ((P0_ k_ ∨ P1_ k_) ∨ w.heap.size ≤ k_))) ?hr ?hp (fun _ hk => hk) ((show ∀ k_, w35.heap.size ≤ k_ → (fun k_ => ((P0_ k_ ∨ P1_ k_) ∨ w.heap.size ≤ k_)) k_ from fun k_ hk => (.inr (Nat.le_trans (below_size (by repeat (first | exact HB.out | apply za | apply zd | apply ze))) hk))) _ (Nat.le_refl _)) (Below.refl _ _) (Nat.le_refl _) (by simp) ?_; (case hd => rfl); (case hg => rfl); (case hr => first | (go_simp; done) | (go_simp; rfl)); (case hp => exact (Reps.one (show Kd.FK (Kd.slice 3 (Kd.int .i64)) _ _ l1 [.slice A1 l1.length c1] from (Kd.FK_slice_mk (Kd.V_reads' (Kd.V_mono (ok' := (fun k_ => ((P0_ k_ ∨ P1_ k_) ∨ w.heap.size ≤ k_))) (HO_1.out) (fun k_ hk => hk))).2.1 (Kd.V_F (by (with_reducible repeat (first | apply Kd.V_alloc | apply Kd.V_drewN | apply Kd.V_drew)); exact Kd.V_mono (ok' := (fun k_ => ((P0_ k_ ∨ P1_ k_) ∨ w.heap.size ≤ k_))) (HO_1.out) (fun k_ hk => hk))))) (Reps.none _ _)))
                   intro v182 w38 ho39 hb hg_ hnew_
                   clear hg_ hnew_
                   (first | rw [← Ny181.out] at ho39 | (simp only [Int.reduceToNat] at ho39; rw [← Ny181.out] at ho39))
                   have n0_ := zk (Kd.V_elder' (by (with_reducible repeat (first | apply Kd.V_alloc | apply Kd.V_drewN | apply Kd.V_drew)); exact HO_0.out) (by first | exact Kd.N_base ho39 | exact Kd.S_base ho39 | exact Kd.R_base ho39) hb)
                   have n1_ := zk (Kd.V_elder' (by (with_reducible repeat (first | apply Kd.V_alloc | apply Kd.V_drewN | apply Kd.V_drew)); exact HO_1.out) (by first | exact Kd.N_base ho39 | exact Kd.S_base ho39 | exact Kd.R_base ho39) hb)
                   have n2_ := zk (Kd.V_elder' (by (with_reducible repeat (first | apply Kd.V_alloc | apply Kd.V_drewN | apply Kd.V_drew)); exact HO177.out) (by first | exact Kd.N_base ho39 | exact Kd.S_base ho39 | exact Kd.R_base ho39) hb)
                   have n3_ := zk (Kd.V_elder' (by (with_reducible repeat (first | apply Kd.V_alloc | apply Kd.V_drewN | apply Kd.V_drew)); exact HO191.out) (by first | exact Kd.N_base ho39 | exact Kd.S_base ho39 | exact Kd.R_base ho39) hb)
                   have n4_ := zk (Kd.N_lower ho39 (below_size (by repeat (first | exact HB.out | apply za | apply zd | apply ze))))
                   have n5_ := zk (below_step (by repeat (first | exact HB.out | apply za | apply zd | apply ze)) hb)
                   clear HO_0
                   clear HO_1
                   clear HO177
                   clear HO191
                   clear HB
                   have HO_0 := n0_
                   have HO_1 := n1_
                   have HO177 := n2_
                   have HO191 := n3_
                   have HO183 := n4_
                   have HB := n5_
                   clear n0_ n1_ n2_ n3_ n4_ n5_
                   clear hb ho39
                   refine hK.out _ _ trivial (fun hHeld => ?_)
                   clear hK K
                   refine norm_ (a' := ?_) ?_ ?_
                   rotate_left
                   · show Act.put _ (some 39) _ = _
                     simp only [Act.put, List.setIfInBounds_toArray, List.set_cons_zero, List.set_cons_succ, i64_w, i32_w]
                     rfl
                   refine one_ (i := 0) (N := some 33) #[true, true, true, true, false, true, true, false, true, true, true, false, false] rfl rfl (one_of HT_.out (by kernel_rfl)) (by decide) (fun K hK => ?_)
                   refine Kd.N_lit_step (Kd.slice 3 (Kd.int .i64)) _ 22 ?hg (N' := 33) ?hd (xs := ([] : List (List Int))) (inner := []) (ok := (fun k_ => ((P0_ k_ ∨ P1_ k_) ∨ w.heap.size ≤ k_) ∧ some k_ ≠ (v182 : Value).ownBlock)) (okp := (fun k_ => ((P0_ k_ ∨ P1_ k_) ∨ w.heap.size ≤ k_) ∧ some k_ ≠ (v182 : Value).ownBlock)) ?hr ?hp (fun _ hk => hk) ((show ∀ k_, w38.heap.size ≤ k_ → (fun k_ => ((P0_ k_ ∨ P1_ k_) ∨ w.heap.size ≤ k_) ∧ some k_ ≠ (v182 : Value).ownBlock) k_ from fun k_ hk => ⟨(.inr (Nat.le_trans (below_size (by repeat (first | exact HB.out | apply za | apply zd | apply ze))) hk)), Kd.fresh' (Kd.N_lt (by (with_reducible repeat (first | apply Kd.N_alloc | apply Kd.N_drewN | apply Kd.N_drew)); exact HO183.out)) k_ hk⟩) _ (Nat.le_refl _)) (Below.refl _ _) (Nat.le_refl _) (by simp) ?_; (case hd => rfl); (case hg => rfl); (case hr => first | (go_simp; done) | (go_simp; rfl)); (case hp => exact (Reps.none _ _))
                   intro v171 w40 ho41 hb hg_ hnew_
                   clear hg_ hnew_
                   (first | rw [← Ny170.out] at ho41 | (simp only [Int.reduceToNat] at ho41; rw [← Ny170.out] at ho41))
                   have n0_ := zk (Kd.V_elder' (by (with_reducible repeat (first | apply Kd.V_alloc | apply Kd.V_drewN | apply Kd.V_drew)); exact HO_0.out) (by first | exact Kd.N_base ho41 | exact Kd.S_base ho41 | exact Kd.R_base ho41) hb)
                   have n1_ := zk (Kd.V_elder' (by (with_reducible repeat (first | apply Kd.V_alloc | apply Kd.V_drewN | apply Kd.V_drew)); exact HO_1.out) (by first | exact Kd.N_base ho41 | exact Kd.S_base ho41 | exact Kd.R_base ho41) hb)
                   have n2_ := zk (Kd.V_elder' (by (with_reducible repeat (first | apply Kd.V_alloc | apply Kd.V_drewN | apply Kd.V_drew)); exact HO177.out) (by first | exact Kd.N_base ho41 | exact Kd.S_base ho41 | exact Kd.R_base ho41) hb)
                   have n3_ := zk (Kd.V_elder' (by (with_reducible repeat (first | apply Kd.V_alloc | apply Kd.V_drewN | apply Kd.V_drew)); exact HO191.out) (by first | exact Kd.N_base ho41 | exact Kd.S_base ho41 | exact Kd.R_base ho41) hb)
                   have n4_ := zk (Kd.N_elder' (by (with_reducible repeat (first | apply Kd.N_alloc | apply Kd.N_drewN | apply Kd.N_drew)); exact HO183.out) (by first | exact Kd.N_base ho41 | exact Kd.S_base ho41 | exact Kd.R_base ho41) hb)
                   have n5_ := zk (Kd.N_lower ho41 (below_size (by repeat (first | exact HB.out | apply za | apply zd | apply ze))))
                   have n6_ := zk (below_step (by repeat (first | exact HB.out | apply za | apply zd | apply ze)) hb)
                   clear HO_0
                   clear HO_1
                   clear HO177
                   clear HO191
                   clear HO183
                   clear HB
                   have HO_0 := n0_
                   have HO_1 := n1_
                   have HO177 := n2_
                   have HO191 := n3_
                   have HO183 := n4_
                   have HO172 := n5_
                   have HB := n6_
                   clear n0_ n1_ n2_ n3_ n4_ n5_ n6_
                   clear hb ho41
                   refine hK.out _ _ trivial (fun hHeld => ?_)
                   clear hK K
                   refine norm_ (a' := ?_) ?_ ?_
                   rotate_left
                   · show Act.put _ (some 33) _ = _
                     simp only [Act.put, List.setIfInBounds_toArray, List.set_cons_zero, List.set_cons_succ, i64_w, i32_w]
                     rfl
                   refine one_ (i := 4) (N := some 37) #[true, true, true, true, true, true, true, false, true, true, true, false, false] rfl rfl (one_of HT_.out (by kernel_rfl)) (by decide) (fun K hK => ?_)
                   refine Kd.N_append_rows_step (Kd.slice 3 (Kd.int .i64)) (w0 := w) w.heap.size (by rfl) (.tmp 33) (.tmp 36) 28 22 (.slice none 0 0) 24 rfl Try.underlying28 info22 rfl (by decide) (by omega) v171 y170 y173 _ _ _ (fun k_ => ((P0_ k_ ∨ P1_ k_) ∨ w.heap.size ≤ k_) ∧ some k_ ≠ (v182 : Value).ownBlock) (fun k_ => ((fun k_ => ((P0_ k_ ∨ P1_ k_) ∨ w.heap.size ≤ k_) ∧ some k_ ≠ (v182 : Value).ownBlock)) k_ ∧ some k_ ≠ (v171 : Value).ownBlock) rfl rfl ?aO ?aR (fun _ hk => hk) ?aF ?aB ?aS ?aL ?_
                   (case aR => exact (by skip; exact Kd.V_F (by (with_reducible repeat (first | apply Kd.V_alloc | apply Kd.V_drewN | apply Kd.V_drew)); exact Kd.V_mono (ok' := (fun k_ => ((fun k_ => ((P0_ k_ ∨ P1_ k_) ∨ w.heap.size ≤ k_) ∧ some k_ ≠ (v182 : Value).ownBlock)) k_ ∧ some k_ ≠ (v171 : Value).ownBlock)) (HO177.out) (fun k_ hk => ⟨⟨hk.1.1, hk.1.2⟩, hk.2⟩))))
                   (case aB => exact (by repeat (first | exact HB.out | apply za | apply zd | apply ze)))
                   (case aF => exact (fun k_ hk => ⟨(.inr (Nat.le_trans (below_size (by repeat (first | exact HB.out | apply za | apply zd | apply ze))) hk)), Kd.fresh' (Kd.N_lt (by (with_reducible repeat (first | apply Kd.N_alloc | apply Kd.N_drewN | apply Kd.N_drew)); exact HO183.out)) k_ hk⟩))
                   (case aO => exact (by (with_reducible repeat (first | apply Kd.N_alloc | apply Kd.N_drewN | apply Kd.N_drew)); exact HO172.out))
                   (case aS => exact (below_size (by repeat (first | exact HB.out | apply za | apply zd | apply ze))))
                   (case aL => have := LMc30.out; omega)
                   intro v179 w42 ho hb hg hat
                   rw [← Ny178.out] at ho
                   have n0_ := zk (Kd.V_afterv (ok := (fun k_ => ((P0_ k_ ∨ P1_ k_) ∨ w.heap.size ≤ k_) ∧ some k_ ≠ (v182 : Value).ownBlock)) (by (with_reducible repeat (first | apply Kd.V_alloc | apply Kd.V_drewN | apply Kd.V_drew)); exact HO_0.out) hg hat)
                   have n1_ := zk (Kd.V_afterv (ok := (fun k_ => ((P0_ k_ ∨ P1_ k_) ∨ w.heap.size ≤ k_) ∧ some k_ ≠ (v182 : Value).ownBlock)) (by (with_reducible repeat (first | apply Kd.V_alloc | apply Kd.V_drewN | apply Kd.V_drew)); exact HO_1.out) hg hat)
                   have n2_ := zk (Kd.V_afterv (ok := (fun k_ => ((P0_ k_ ∨ P1_ k_) ∨ w.heap.size ≤ k_) ∧ some k_ ≠ (v182 : Value).ownBlock)) (by (with_reducible repeat (first | apply Kd.V_alloc | apply Kd.V_drewN | apply Kd.V_drew)); exact HO177.out) hg hat)
                   have n3_ := zk (Kd.V_afterv (ok := (fun k_ => ((P0_ k_ ∨ P1_ k_) ∨ w.heap.size ≤ k_) ∧ some k_ ≠ (v182 : Value).ownBlock)) (by (with_reducible repeat (first | apply Kd.V_alloc | apply Kd.V_drewN | apply Kd.V_drew)); exact HO191.out) hg hat)
                   have n4_ := zk (Kd.N_afterv (ok := (fun k_ => ((P0_ k_ ∨ P1_ k_) ∨ w.heap.size ≤ k_))) (by (with_reducible repeat (first | apply Kd.N_alloc | apply Kd.N_drewN | apply Kd.N_drew)); exact HO183.out) hg hat)
                   have n5_ := zk (hb)
                   have n6_ := zk (ho)
                   clear HO_0
                   clear HO_1
                   clear HO177
                   clear HO191
                   clear HO183
                   clear HB
                   clear HO172
                   have HO_0 := n0_
                   have HO_1 := n1_
                   have HO177 := n2_
                   have HO191 := n3_
                   have HO183 := n4_
                   have HB := n5_
                   have HO180 := n6_
                   clear n0_ n1_ n2_ n3_ n4_ n5_ n6_
                   clear ho hb hg hat
                   refine hK.out _ _ trivial (fun hHeld => ?_)
                   clear hK K
                   refine norm_ (a' := ?_) ?_ ?_
                   rotate_left
                   · show Act.put _ (some 37) _ = _
                     simp only [Act.put, List.setIfInBounds_toArray, List.set_cons_zero, List.set_cons_succ, i64_w, i32_w]
                     rfl
                   exact norm_ (by simp only [putAll, Act.put, List.setIfInBounds_toArray, List.set_cons_zero, List.set_cons_succ]) (hCont (v171, v179, v182) _ ⟨(by (with_reducible repeat (first | apply Kd.V_alloc | apply Kd.V_drewN | apply Kd.V_drew)); exact Kd.V_mono HO177.out (fun _ hk => ⟨hk.1.1, ⟨hk.2, hk.1.2⟩⟩)), (by (with_reducible repeat (first | apply Kd.N_alloc | apply Kd.N_drewN | apply Kd.N_drew)); exact HO180.out), (by (with_reducible repeat (first | apply Kd.N_alloc | apply Kd.N_drewN | apply Kd.N_drew)); exact HO183.out), (by (with_reducible repeat (first | apply Kd.V_alloc | apply Kd.V_drewN | apply Kd.V_drew)); exact Kd.V_mono HO191.out (fun _ hk => ⟨hk.1.1, ⟨hk.2, hk.1.2⟩⟩)), (by (with_reducible repeat (first | apply Kd.V_alloc | apply Kd.V_drewN | apply Kd.V_drew)); exact Kd.V_mono HO_0.out (fun _ hk => ⟨hk.1.1, ⟨hk.2, hk.1.2⟩⟩)), (by (with_reducible repeat (first | apply Kd.V_alloc | apply Kd.V_drewN | apply Kd.V_drew)); exact Kd.V_mono HO_1.out (fun _ hk => ⟨hk.1.1, ⟨hk.2, hk.1.2⟩⟩)), (by repeat (first | exact HB.out | apply za | apply zd | apply ze))⟩)
               rintro ⟨v171, v179, v182⟩ w43 ⟨h0_, h1_, h2_, h3_, h4_, h5_, h6_⟩
               have n0_ : Aside0 (Kd.V (Kd.slice 3 (Kd.int .i64)) 22 w43 w.heap.size (fun k_ => ((P0_ k_ ∨ P1_ k_) ∨ w.heap.size ≤ k_) ∧ some k_ ≠ (v179 : Value).ownBlock ∧ some k_ ≠ (v182 : Value).ownBlock) (.slice A0 y173.length c0) y173) := ⟨h0_⟩
               have n1_ : Aside0 (Kd.N (Kd.slice 3 (Kd.int .i64)) 22 w43 w.heap.size (fun k_ => ((P0_ k_ ∨ P1_ k_) ∨ w.heap.size ≤ k_) ∧ some k_ ≠ (v182 : Value).ownBlock) v179 y178) := ⟨h1_⟩
               have n2_ : Aside0 (Kd.N (Kd.slice 3 (Kd.int .i64)) 22 w43 w.heap.size (fun k_ => ((P0_ k_ ∨ P1_ k_) ∨ w.heap.size ≤ k_) ∧ some k_ ≠ (v179 : Value).ownBlock) v182 y181) := ⟨h2_⟩
               have n3_ : Aside0 (Kd.V (Kd.slice 3 (Kd.int .i64)) 22 w43 w.heap.size (fun k_ => ((P0_ k_ ∨ P1_ k_) ∨ w.heap.size ≤ k_) ∧ some k_ ≠ (v179 : Value).ownBlock ∧ some k_ ≠ (v182 : Value).ownBlock) (.slice A37 y187.length c37) y187) := ⟨h3_⟩
               have n4_ : Aside0 (Kd.V (Kd.slice 3 (Kd.int .i64)) 22 w43 w.heap.size (fun k_ => ((P0_ k_ ∨ P1_ k_) ∨ w.heap.size ≤ k_) ∧ some k_ ≠ (v179 : Value).ownBlock ∧ some k_ ≠ (v182 : Value).ownBlock) (.slice A0 l0.length c0) l0) := ⟨h4_⟩
               have n5_ : Aside0 (Kd.V (Kd.int .i64) 3 w43 w.heap.size (fun k_ => ((P0_ k_ ∨ P1_ k_) ∨ w.heap.size ≤ k_) ∧ some k_ ≠ (v179 : Value).ownBlock ∧ some k_ ≠ (v182 : Value).ownBlock) (.slice A1 l1.length c1) l1) := ⟨h5_⟩
               have n6_ : Aside0 (Below w.heap.size w w43) := ⟨h6_⟩
               clear HO_0
               clear HO_1
               clear HB
               clear h0_ h1_ h2_ h3_ h4_ h5_ h6_
               have HO177 := n0_
               have HO180 := n1_
               have HO183 := n2_
               have HO191 := n3_
               have HO_0 := n4_
               have HO_1 := n5_
               have HB := n6_
               clear n0_ n1_ n2_ n3_ n4_ n5_ n6_
               have hHeld := trivial
               obtain ⟨Ao45, co45, eo45⟩ := Kd.N_slice HO183.out
               (first | subst eo45 | (injection eo45 with f1_ f2_ f3_; have f4_ := f1_.symm; have f5_ := f3_.symm; clear f1_ f2_ f3_; subst f4_; subst f5_))
               refine norm_ (a' := ?_) ?_ ?_
               rotate_left
               · simp only [putAll, Act.put, List.setIfInBounds_toArray, List.set_cons_zero, List.set_cons_succ]
                 rfl
               refine one_ (i := 7) (N := some 40) #[true, true, true, true, true, true, true, true, true, true, true, false, false] rfl rfl (one_of HT_.out (by kernel_rfl)) (by decide) (fun K hK => ?_)
               refine Kd.N_append_rows_step (Kd.slice 3 (Kd.int .i64)) (w0 := w) w.heap.size (by rfl) (.tmp 37) (.tmp 39) 28 22 (.slice none 0 0) 24 rfl Try.underlying28 info22 rfl (by decide) (by omega) v179 y178 y181 _ _ _ (fun k_ => ((P0_ k_ ∨ P1_ k_) ∨ w.heap.size ≤ k_)) (fun k_ => ((fun k_ => ((P0_ k_ ∨ P1_ k_) ∨ w.heap.size ≤ k_))) k_ ∧ some k_ ≠ (v179 : Value).ownBlock) rfl rfl ?aO ?aR (fun _ hk => hk) ?aF ?aB ?aS ?aL ?_
               (case aR => exact (by skip; exact Kd.N_F (Kd.N_mono (ok' := (fun k_ => ((fun k_ => ((P0_ k_ ∨ P1_ k_) ∨ w.heap.size ≤ k_))) k_ ∧ some k_ ≠ (v179 : Value).ownBlock)) (HO183.out) (fun k_ hk => ⟨hk.1, hk.2⟩))))
               (case aB => exact (by repeat (first | exact HB.out | apply za | apply zd | apply ze)))
               (case aF => exact (fun k_ hk => (.inr (Nat.le_trans (below_size (by repeat (first | exact HB.out | apply za | apply zd | apply ze))) hk))))
               (case aO => exact (by (with_reducible repeat (first | apply Kd.N_alloc | apply Kd.N_drewN | apply Kd.N_drew)); exact Kd.N_mono HO180.out (fun _ hk => hk.1)))
               (case aS => exact (below_size (by repeat (first | exact HB.out | apply za | apply zd | apply ze))))
               (case aL => have := LMc31.out; omega)
               intro v185 w44 ho hb hg hat
               rw [← Ny184.out] at ho
               have n0_ := zk (Kd.V_afterv (ok := (fun k_ => ((P0_ k_ ∨ P1_ k_) ∨ w.heap.size ≤ k_) ∧ some k_ ≠ (.slice Ao45 y181.length co45 : Value).ownBlock)) (by (with_reducible repeat (first | apply Kd.V_alloc | apply Kd.V_drewN | apply Kd.V_drew)); first | exact Kd.V_mono HO_0.out (fun _ hk => ⟨⟨hk.1, hk.2.2⟩, hk.2.1⟩) | exact Kd.V_mono HO_0.out (fun k_ hk => by (have own_ : ∀ (A : Option Addr) (n c : Nat), (Value.slice A n c).ownBlock = A.map Addr.block := fun A n c => by cases A <;> rfl); simp only [own_] at hk ⊢; exact ⟨⟨hk.1, hk.2.2⟩, hk.2.1⟩)) hg hat)
               have n1_ := zk (Kd.V_afterv (ok := (fun k_ => ((P0_ k_ ∨ P1_ k_) ∨ w.heap.size ≤ k_) ∧ some k_ ≠ (.slice Ao45 y181.length co45 : Value).ownBlock)) (by (with_reducible repeat (first | apply Kd.V_alloc | apply Kd.V_drewN | apply Kd.V_drew)); first | exact Kd.V_mono HO_1.out (fun _ hk => ⟨⟨hk.1, hk.2.2⟩, hk.2.1⟩) | exact Kd.V_mono HO_1.out (fun k_ hk => by (have own_ : ∀ (A : Option Addr) (n c : Nat), (Value.slice A n c).ownBlock = A.map Addr.block := fun A n c => by cases A <;> rfl); simp only [own_] at hk ⊢; exact ⟨⟨hk.1, hk.2.2⟩, hk.2.1⟩)) hg hat)
               have n2_ := zk (Kd.V_afterv (ok := (fun k_ => ((P0_ k_ ∨ P1_ k_) ∨ w.heap.size ≤ k_) ∧ some k_ ≠ (.slice Ao45 y181.length co45 : Value).ownBlock)) (by (with_reducible repeat (first | apply Kd.V_alloc | apply Kd.V_drewN | apply Kd.V_drew)); first | exact Kd.V_mono HO177.out (fun _ hk => ⟨⟨hk.1, hk.2.2⟩, hk.2.1⟩) | exact Kd.V_mono HO177.out (fun k_ hk => by (have own_ : ∀ (A : Option Addr) (n c : Nat), (Value.slice A n c).ownBlock = A.map Addr.block := fun A n c => by cases A <;> rfl); simp only [own_] at hk ⊢; exact ⟨⟨hk.1, hk.2.2⟩, hk.2.1⟩)) hg hat)
               have n3_ := zk (Kd.V_afterv (ok := (fun k_ => ((P0_ k_ ∨ P1_ k_) ∨ w.heap.size ≤ k_) ∧ some k_ ≠ (.slice Ao45 y181.length co45 : Value).ownBlock)) (by (with_reducible repeat (first | apply Kd.V_alloc | apply Kd.V_drewN | apply Kd.V_drew)); first | exact Kd.V_mono HO191.out (fun _ hk => ⟨⟨hk.1, hk.2.2⟩, hk.2.1⟩) | exact Kd.V_mono HO191.out (fun k_ hk => by (have own_ : ∀ (A : Option Addr) (n c : Nat), (Value.slice A n c).ownBlock = A.map Addr.block := fun A n c => by cases A <;> rfl); simp only [own_] at hk ⊢; exact ⟨⟨hk.1, hk.2.2⟩, hk.2.1⟩)) hg hat)
               have n4_ := zk (Kd.N_afterv (ok := (fun k_ => ((P0_ k_ ∨ P1_ k_) ∨ w.heap.size ≤ k_))) (by (with_reducible repeat (first | apply Kd.N_alloc | apply Kd.N_drewN | apply Kd.N_drew)); exact HO183.out) hg hat)
               have n5_ := zk (hb)
               have n6_ := zk (ho)
               clear HO_0
               clear HO_1
               clear HO177
               clear HO191
               clear HO183
               clear HB
               clear HO180
               have HO_0 := n0_
               have HO_1 := n1_
               have HO177 := n2_
               have HO191 := n3_
               have HO183 := n4_
               have HB := n5_
               have HO186 := n6_
               clear n0_ n1_ n2_ n3_ n4_ n5_ n6_
               clear ho hb hg hat
               refine hK.out _ _ trivial (fun hHeld => ?_)
               clear hK K
               refine norm_ (a' := ?_) ?_ ?_
               rotate_left
               · show Act.put _ (some 40) _ = _
                 simp only [Act.put, List.setIfInBounds_toArray, List.set_cons_zero, List.set_cons_succ, i64_w, i32_w]
                 rfl
               refine one_ (i := 11) (N := some 44) #[true, true, true, true, true, true, true, true, true, true, true, true, false] rfl rfl (one_of HT_.out (by kernel_rfl)) (by decide) (fun K hK => ?_)
               refine Kd.N_append_rows_step (Kd.slice 3 (Kd.int .i64)) (w0 := w) w.heap.size (by rfl) (.tmp 40) (.tmp 43) 28 22 (.slice none 0 0) 24 rfl Try.underlying28 info22 rfl (by decide) (by omega) v185 y184 y187 _ _ _ (fun k_ => ((P0_ k_ ∨ P1_ k_) ∨ w.heap.size ≤ k_)) (fun k_ => ((fun k_ => ((P0_ k_ ∨ P1_ k_) ∨ w.heap.size ≤ k_))) k_ ∧ some k_ ≠ (v185 : Value).ownBlock) rfl rfl ?aO ?aR (fun _ hk => hk) ?aF ?aB ?aS ?aL ?_
               (case aR => exact (by skip; exact Kd.V_F (by (with_reducible repeat (first | apply Kd.V_alloc | apply Kd.V_drewN | apply Kd.V_drew)); exact Kd.V_mono (ok' := (fun k_ => ((fun k_ => ((P0_ k_ ∨ P1_ k_) ∨ w.heap.size ≤ k_))) k_ ∧ some k_ ≠ (v185 : Value).ownBlock)) (HO191.out) (fun k_ hk => ⟨hk.1.1, hk.2⟩))))
               (case aB => exact (by repeat (first | exact HB.out | apply za | apply zd | apply ze)))
               (case aF => exact (fun k_ hk => (.inr (Nat.le_trans (below_size (by repeat (first | exact HB.out | apply za | apply zd | apply ze))) hk))))
               (case aO => exact (by (with_reducible repeat (first | apply Kd.N_alloc | apply Kd.N_drewN | apply Kd.N_drew)); exact HO186.out))
               (case aS => exact (below_size (by repeat (first | exact HB.out | apply za | apply zd | apply ze))))
               (case aL => have := LMc34.out; omega)
               intro v193 w46 ho hb hg hat
               rw [← Ny192.out] at ho
               have n0_ := zk (Kd.V_afterv (ok := (fun k_ => ((P0_ k_ ∨ P1_ k_) ∨ w.heap.size ≤ k_) ∧ some k_ ≠ (.slice Ao45 y181.length co45 : Value).ownBlock)) (by (with_reducible repeat (first | apply Kd.V_alloc | apply Kd.V_drewN | apply Kd.V_drew)); exact HO_0.out) hg hat)
               have n1_ := zk (Kd.V_afterv (ok := (fun k_ => ((P0_ k_ ∨ P1_ k_) ∨ w.heap.size ≤ k_) ∧ some k_ ≠ (.slice Ao45 y181.length co45 : Value).ownBlock)) (by (with_reducible repeat (first | apply Kd.V_alloc | apply Kd.V_drewN | apply Kd.V_drew)); exact HO_1.out) hg hat)
               have n2_ := zk (Kd.V_afterv (ok := (fun k_ => ((P0_ k_ ∨ P1_ k_) ∨ w.heap.size ≤ k_) ∧ some k_ ≠ (.slice Ao45 y181.length co45 : Value).ownBlock)) (by (with_reducible repeat (first | apply Kd.V_alloc | apply Kd.V_drewN | apply Kd.V_drew)); exact HO177.out) hg hat)
               have n3_ := zk (Kd.V_afterv (ok := (fun k_ => ((P0_ k_ ∨ P1_ k_) ∨ w.heap.size ≤ k_) ∧ some k_ ≠ (.slice Ao45 y181.length co45 : Value).ownBlock)) (by (with_reducible repeat (first | apply Kd.V_alloc | apply Kd.V_drewN | apply Kd.V_drew)); exact HO191.out) hg hat)
               have n4_ := zk (Kd.N_afterv (ok := (fun k_ => ((P0_ k_ ∨ P1_ k_) ∨ w.heap.size ≤ k_))) (by (with_reducible repeat (first | apply Kd.N_alloc | apply Kd.N_drewN | apply Kd.N_drew)); exact HO183.out) hg hat)
               have n5_ := zk (hb)
               have n6_ := zk (ho)
               clear HO_0
               clear HO_1
               clear HO177
               clear HO191
               clear HO183
               clear HB
               clear HO186
               have HO_0 := n0_
               have HO_1 := n1_
               have HO177 := n2_
               have HO191 := n3_
               have HO183 := n4_
               have HB := n5_
               have HO194 := n6_
               clear n0_ n1_ n2_ n3_ n4_ n5_ n6_
               clear ho hb hg hat
               refine hK.out _ _ trivial (fun hHeld => ?_)
               clear hK K
               refine norm_ (a' := ?_) ?_ ?_
               rotate_left
               · show Act.put _ (some 44) _ = _
                 simp only [Act.put, List.setIfInBounds_toArray, List.set_cons_zero, List.set_cons_succ, i64_w, i32_w]
                 rfl
               refine pure_ (i := 12) (N := some 4) (v := ?_) (a' := ?_) #[true, true, true, true, true, true, true, true, true, true, true, true, true] rfl rfl (any_of HT_.out (by kernel_rfl)) (fun _ _ _ h => h) (Or.inl ⟨by rfl, ?_⟩) ?_ ?_
               rotate_left
               · intro w'
                 go_simp
                 with_reducible rfl
               rotate_left
               · simp only [Act.put, List.setIfInBounds_toArray, List.set_cons_zero, List.set_cons_succ, i64_w, i32_w]
                 rfl
               refine done_ (done_of HT_.out (by kernel_rfl)) ?_
               try go_wp2
               go_ret
               exact ⟨_, by first | rfl | (simp [errW_none, errW_some] <;> rfl) | (simp [*, errW_none, errW_some] <;> rfl), Kd.N_V (by (with_reducible repeat (first | apply Kd.N_alloc | apply Kd.N_drewN | apply Kd.N_drew)); exact HO194.out), by repeat (first | exact HB.out | apply za | apply zd | apply ze)⟩
             · rw [if_neg c34] at H
               exact absurd H (by simp)
           · rw [if_neg c31] at H
             exact absurd H (by simp)
         · rw [if_neg c30] at H
           exact absurd H (by simp)
       · rw [if_neg c29] at H
         exact absurd H (by simp)
     · rw [if_neg c28] at H
       exact absurd H (by simp)

end Go.Proofs.Ytlkddcabjcejdaa.MFnStackWords
