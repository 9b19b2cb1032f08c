/- The functions that FnOneStack comes to, with a walk for each. Made by this session's own program (wip/tools/mk.py), in the form of the kit's print; walks named in NOTES.md were written by hand. -/
import Derived.Test.YtlkddcabjcejdaaMFnOneStackx0
import Derived.Test.YtlkddcabjcejdaaMFnOneStackx6
import Derived.Test.YtlkddcabjcejdaaMFnOneStackx12
namespace Go.Proofs.Ytlkddcabjcejdaa.MFnOneStack
open Go.RowKit Go.Proofs.YtlkddcabjcejdaaW.PrintWords Go.Proofs.YtlkddcabjcejdaaW.PrintLast Go.Proofs.YtlkddcabjcejdaaW.PrintMore
attribute [local go_sem] max2_int min2_int max_two min_two max_three min_three max_four min_four   -- for this text's walks alone
set_option linter.unusedVariables false
set_option linter.unusedSimpArgs false

/-! ### impl_RankOfWord: function 83 -/
def impl_RankOfWord.l0 : Nat → ByteArray → Int → Int → Int → Int → Int → Option (Int × Bool)
 | 0, _, _, _, _, _, _ => none
 | k + 1, x0, x4, x5, x6, x18, x19 => if x19 < x18 then (if 0 ≤ x19 then (if x19 < (x0.size : Int) then (if (bt x0 x19) = 73 then (impl_RankOfWord.l0 k x0 (wrap64 (x4 - 1)) x5 x6 x18 (wrap64 (x19 + 1))) else (if x4 > 0 then ((impl_countWords.f k (wrap64 (x4 - 1)) x5).bind fun t476 => (impl_RankOfWord.l0 k x0 x4 (wrap64 (x5 - 1)) (wrap64 (x6 + t476)) x18 (wrap64 (x19 + 1)))) else (impl_RankOfWord.l0 k x0 x4 (wrap64 (x5 - 1)) x6 x18 (wrap64 (x19 + 1))))) else (none)) else (none)) else (some (x6, true))
def impl_RankOfWord.f (k : Nat) (a0 : ByteArray) : Option (Int × Bool) := (impl_isWord.f k a0).bind fun t475 => (if t475 = true then (impl_RankOfWord.l0 k a0 (wrap64 ((a0.size : Int) / 2)) (wrap64 ((a0.size : Int) / 2)) 0 (a0.size : Int) 0) else (some (0, false)))
set_option maxHeartbeats 8000000 in
set_option maxRecDepth 100000 in
theorem impl_RankOfWord.calls (k : Nat) (a0 : ByteArray) (r1 : Int) (r2 : Bool) (w : World) (h : impl_RankOfWord.f k a0 = some (r1, r2)) :
 Calls Try.prog 83 #[.string a0] w fun e w' => e = .returned (.tuple #[.int .i64 r1, .bool r2]) ∧ Below w.heap.size w w' := by
 have HB := zk (Below.refl w.heap.size w)
 have H : ((impl_isWord.f k a0).bind fun t475 => (if t475 = true then (impl_RankOfWord.l0 k a0 (wrap64 ((a0.size : Int) / 2)) (wrap64 ((a0.size : Int) / 2)) 0 (a0.size : Int) 0) else (some (0, false)))) = some (r1, r2) := h
 clear h
 replace H := Option.bind_eq_some_iff.mp H
 obtain ⟨t475, A20, H⟩ := H
 try dsimp only at H
 have A2 := zk A20
 clear A20
 by_cases c3 : t475 = true
 · subst c3
   have H1 : (impl_RankOfWord.l0 k a0 (wrap64 ((a0.size : Int) / 2)) (wrap64 ((a0.size : Int) / 2)) 0 (a0.size : Int) 0) = some (r1, r2) := by rw [if_pos rfl] at H; exact H
   clear H
   have H := H1
   clear H1
   have H' := zk H
   clear H
   go_enter Try.func83, Try.ntmps83
   go_wp2_with (first | ((with_reducible refine gate_callee (f := 208) rfl ?_); refine goesL_ (some 9) rfl rfl Try.func208 (by kernel_rfl) rfl #[.string a0] rfl (by (try simp only [List.map_toArray, List.map_cons, List.map_nil]); first | done | rfl | (simp only [List.length_drop, List.length_take]; rfl)) ?_; (with_reducible refine (impl_isWord.calls k a0 true _ A2.out).mono ?_); rintro e w4 ⟨rfl, hb⟩; refine ⟨_, rfl, ?_⟩; have n0_ := zk (below_step (by repeat (first | exact HB.out | apply za | apply zd | apply ze)) hb); clear HB; have HB := n0_; clear n0_; (try clear hb); (try clear hb2); (try clear hk); (try clear hi)))
   go_loopg [4, 5, 6, 19] k (fun kq v4 v5 v6 v19 w' => ∃ (x4_1 : Int) (x5_1 : Int) (x6_1 : Int) (x19_1 : Int), v4 = .int .i64 x4_1 ∧ v5 = .int .i64 x5_1 ∧ v6 = .int .i64 x6_1 ∧ v19 = .int .i64 x19_1 ∧ Aside0 (impl_RankOfWord.l0 kq a0 x4_1 x5_1 x6_1 (a0.size : Int) x19_1 = some (r1, r2)) ∧ Aside0 (kq ≤ k) ∧ Aside0 (Below w.heap.size w w'))
   case atStart => exact ⟨(wrap64 ((a0.size : Int) / 2)), (wrap64 ((a0.size : Int) / 2)), (0), (0), (by first | rfl | (simp; done) | (simp [*]; done)), (by first | rfl | (simp; done) | (simp [*]; done)), (by first | rfl | (simp; done) | (simp [*]; done)), (by first | rfl | (simp; done) | (simp [*]; done)), H', ⟨Nat.le_refl _⟩, ⟨by repeat (first | exact HB.out | apply za | apply zd | apply ze)⟩⟩
   case round =>
    clear H'
    try clear c2
    try clear p2
    try clear c3
    obtain ⟨x4_1, x5_1, x6_1, x19_1, rfl, rfl, rfl, rfl, HA, HK1, HB⟩ := hrel
    cases gk with
    | zero => exact absurd HA.out (by simp [impl_RankOfWord.l0])
    | succ k1 =>
     have H := HA.out
     clear HA
     simp only [impl_RankOfWord.l0] at H
     by_cases c5 : x19_1 < (a0.size : Int)
     · rw [if_pos c5] at H
       have c5b0 : decide (x19_1 < (a0.size : Int)) = true := decide_eq_true c5
       clear c5
       by_cases c6 : 0 ≤ x19_1
       · rw [if_pos c6] at H
         have c6b0 : decide (0 ≤ x19_1) = true := decide_eq_true c6
         clear c6
         by_cases c7 : x19_1 < (a0.size : Int)
         · rw [if_pos c7] at H
           have c7b0 : decide (x19_1 < (a0.size : Int)) = true := decide_eq_true c7
           clear c7
           by_cases c9 : (bt a0 x19_1) = 73
           · rw [if_pos c9] at H
             have c9b0 : ((bt a0 x19_1) == 73) = true := beq_iff_eq.mpr c9
             have c9b1 : ((bt a0 x19_1) != 73) = false := bne_eq_false_iff_eq.mpr c9
             clear c9
             have H' := zk H
             clear H
             have p8 : 0 ≤ (x19_1 : Int) := zo (by assumption)
             have q8 : x19_1 < (a0.size : Int) := zo (by assumption)
             have hx8 := bt_at a0 x19_1
             replace p8 := eq_true p8
             replace q8 := eq_true q8
             go_wp2
             go_roundg k1
             case measure => have := HK1.out; omega
             case rel => exact ⟨(wrap64 (x4_1 - 1)), (x5_1), (x6_1), (wrap64 (x19_1 + 1)), (by first | rfl | (simp; done) | (simp [*]; done)), (by first | rfl | (simp; done) | (simp [*]; done)), (by first | rfl | (simp; done) | (simp [*]; done)), (by first | rfl | (simp; done) | (simp [*]; done)), H', ⟨by have := HK1.out; omega⟩, ⟨by repeat (first | exact HB.out | apply za | apply zd | apply ze)⟩⟩
           · rw [if_neg c9] at H
             have c9b0 : ((bt a0 x19_1) == 73) = false := beq_eq_false_iff_ne.mpr c9
             have c9b1 : ((bt a0 x19_1) != 73) = true := bne_iff_ne.mpr c9
             by_cases c10 : x4_1 > 0
             · rw [if_pos c10] at H
               have c10b0 : decide (0 < x4_1) = true := decide_eq_true c10
               clear c10
               replace H := Option.bind_eq_some_iff.mp H
               obtain ⟨t476, A110, H⟩ := H
               try dsimp only at H
               have A11 := zk A110
               clear A110
               have H' := zk H
               clear H
               have p8 : 0 ≤ (x19_1 : Int) := zo (by assumption)
               have q8 : x19_1 < (a0.size : Int) := zo (by assumption)
               have hx8 := bt_at a0 x19_1
               replace p8 := eq_true p8
               replace q8 := eq_true q8
               go_wp2_with (first | ((with_reducible refine gate_callee (f := 210) rfl ?_); refine goesL_ (some 34) rfl rfl Try.func210 (by kernel_rfl) rfl #[.int .i64 (wrap64 (x4_1 - 1)), .int .i64 x5_1] rfl (by (try simp only [List.map_toArray, List.map_cons, List.map_nil]); first | done | rfl | (simp only [List.length_drop, List.length_take]; rfl)) ?_; (with_reducible refine (impl_countWords.calls k1 (wrap64 (x4_1 - 1)) x5_1 t476 _ A11.out).mono ?_); rintro e w' ⟨rfl, ⟨nd, rfl⟩⟩; refine ⟨_, rfl, ?_⟩))
               go_roundg k1
               case measure => have := HK1.out; omega
               case rel => exact ⟨(x4_1), (wrap64 (x5_1 - 1)), (wrap64 (x6_1 + t476)), (wrap64 (x19_1 + 1)), (by first | rfl | (simp; done) | (simp [*]; done)), (by first | rfl | (simp; done) | (simp [*]; done)), (by first | rfl | (simp; done) | (simp [*]; done)), (by first | rfl | (simp; done) | (simp [*]; done)), H', ⟨by have := HK1.out; omega⟩, ⟨by repeat (first | exact HB.out | apply za | apply zd | apply ze)⟩⟩
             · rw [if_neg c10] at H
               have c10b0 : decide (0 < x4_1) = false := decide_eq_false c10
               clear c10
               have H' := zk H
               clear H
               have p8 : 0 ≤ (x19_1 : Int) := zo (by assumption)
               have q8 : x19_1 < (a0.size : Int) := zo (by assumption)
               have hx8 := bt_at a0 x19_1
               replace p8 := eq_true p8
               replace q8 := eq_true q8
               go_wp2
               go_roundg k1
               case measure => have := HK1.out; omega
               case rel => exact ⟨(x4_1), (wrap64 (x5_1 - 1)), (x6_1), (wrap64 (x19_1 + 1)), (by first | rfl | (simp; done) | (simp [*]; done)), (by first | rfl | (simp; done) | (simp [*]; done)), (by first | rfl | (simp; done) | (simp [*]; done)), (by first | rfl | (simp; done) | (simp [*]; done)), H', ⟨by have := HK1.out; omega⟩, ⟨by repeat (first | exact HB.out | apply za | apply zd | apply ze)⟩⟩
         · rw [if_neg c7] at H
           exact absurd H (by simp)
       · rw [if_neg c6] at H
         exact absurd H (by simp)
     · rw [if_neg c5] at H
       have c5b0 : decide (x19_1 < (a0.size : Int)) = false := decide_eq_false c5
       clear c5
       simp only [Option.some.injEq, Prod.mk.injEq] at H
       obtain ⟨rfl, rfl⟩ := H
       go_wp2
       go_ret2
       exact ⟨by first | rfl | (simp [errW_none, errW_some] <;> rfl) | (simp [*, errW_none, errW_some] <;> rfl), by repeat (first | exact HB.out | apply za | apply zd | apply ze)⟩
 · replace c3 := Bool.eq_false_iff.mpr c3
   subst c3
   have H1 : (some (0, false)) = some (r1, r2) := by rw [if_neg (show ¬ (false = true) by decide)] at H; exact H
   clear H
   have H := H1
   clear H1
   simp only [Option.some.injEq, Prod.mk.injEq] at H
   obtain ⟨rfl, rfl⟩ := H
   go_enter Try.func83, Try.ntmps83
   go_wp2_with (first | ((with_reducible refine gate_callee (f := 208) rfl ?_); refine goesL_ (some 9) rfl rfl Try.func208 (by kernel_rfl) rfl #[.string a0] rfl (by (try simp only [List.map_toArray, List.map_cons, List.map_nil]); first | done | rfl | (simp only [List.length_drop, List.length_take]; rfl)) ?_; (with_reducible refine (impl_isWord.calls k a0 false _ A2.out).mono ?_); rintro e w12 ⟨rfl, hb⟩; refine ⟨_, rfl, ?_⟩; have n0_ := zk (below_step (by repeat (first | exact HB.out | apply za | apply zd | apply ze)) hb); clear HB; have HB := n0_; clear n0_; (try clear hb); (try clear hb2); (try clear hk); (try clear hi)))
   go_ret2
   exact ⟨by first | rfl | (simp [errW_none, errW_some] <;> rfl) | (simp [*, errW_none, errW_some] <;> rfl), by repeat (first | exact HB.out | apply za | apply zd | apply ze)⟩

/-! ### spec_l4Ends: function 212 -/
mutual
def spec_l4Ends.l0 : Nat → Int → Int → List Int → Int → Option (Int)
 | 0, _, _, _, _ => none
 | k + 1, x0, x1, x5, x6 => if x6 ≤ x1 then (spec_l4Ends.l1 k x0 x1 x5 x6 (([] : List Int)) 0) else (if x0 ≥ (x5.length : Int) then (some 0) else (if 0 ≤ x0 then (if x0 < (x5.length : Int) then (some (rd x5 x0)) else (none)) else (none)))
def spec_l4Ends.l1 : Nat → Int → Int → List Int → Int → List Int → Int → Option (Int)
 | 0, _, _, _, _, _, _ => none
 | k + 1, x0, x1, x5, x6, x7, x8 => if x8 ≤ x6 then (if x8 > 0 then (if 0 ≤ (wrap64 (x8 - 1)) then (if (wrap64 (x8 - 1)) < (x5.length : Int) then (if (wrap64 (x8 + 1)) < (x5.length : Int) then (if 0 ≤ (wrap64 (x8 + 1)) then (if x7.length < 17592186044416 then (spec_l4Ends.l1 k x0 x1 x5 x6 (x7 ++ [wrap64 ((rd x5 (wrap64 (x8 - 1))) + (rd x5 (wrap64 (x8 + 1))))]) (wrap64 (x8 + 1))) else (none)) else (none)) else (if x7.length < 17592186044416 then (spec_l4Ends.l1 k x0 x1 x5 x6 (x7 ++ [rd x5 (wrap64 (x8 - 1))]) (wrap64 (x8 + 1))) else (none))) else (none)) else (none)) else (if (wrap64 (x8 + 1)) < (x5.length : Int) then (if 0 ≤ (wrap64 (x8 + 1)) then (if x7.length < 17592186044416 then (spec_l4Ends.l1 k x0 x1 x5 x6 (x7 ++ [wrap64 ((rd x5 (wrap64 (x8 + 1))))]) (wrap64 (x8 + 1))) else (none)) else (none)) else (if x7.length < 17592186044416 then (spec_l4Ends.l1 k x0 x1 x5 x6 (x7 ++ [0]) (wrap64 (x8 + 1))) else (none)))) else (spec_l4Ends.l0 k x0 x1 x7 (wrap64 (x6 + 1)))
end
def spec_l4Ends.f (k : Nat) (a0 : Int) (a1 : Int) : Option (Int) := spec_l4Ends.l0 k a0 a1 (([1] : List Int)) 1
theorem spec_l4Ends.mono_l : ∀ k, (∀ y0 y1 y2 y3, LeO (spec_l4Ends.l0 k y0 y1 y2 y3) (spec_l4Ends.l0 (k + 1) y0 y1 y2 y3)) ∧ (∀ y0 y1 y2 y3 y4 y5, LeO (spec_l4Ends.l1 k y0 y1 y2 y3 y4 y5) (spec_l4Ends.l1 (k + 1) y0 y1 y2 y3 y4 y5))
 | 0 => ⟨fun _ _ _ _ r h => by simp [spec_l4Ends.l0] at h, fun _ _ _ _ _ _ r h => by simp [spec_l4Ends.l1] at h⟩
 | k + 1 => by
  obtain ⟨ih0, ih1⟩ := spec_l4Ends.mono_l k
  refine ⟨?_, ?_⟩
  · intro y0 y1 y2 y3
    unfold spec_l4Ends.l0
    repeat' first
    | (with_reducible exact ih0 _ _ _ _)
    | (with_reducible exact ih1 _ _ _ _ _ _)
    | (with_reducible exact LeO.refl _)
    | (with_reducible exact LeO.none _)
    | (with_reducible refine LeO.ite ?_ ?_)
    | (with_reducible refine LeO.bind ?_ (fun _ => ?_))
    | exact ih0 _ _ _ _
    | exact ih1 _ _ _ _ _ _
    | exact LeO.none _
    | refine LeO.ite ?_ ?_
    | refine LeO.bind ?_ (fun _ => ?_)
  · intro y0 y1 y2 y3 y4 y5
    unfold spec_l4Ends.l1
    repeat' first
    | (with_reducible exact ih0 _ _ _ _)
    | (with_reducible exact ih1 _ _ _ _ _ _)
    | (with_reducible exact LeO.refl _)
    | (with_reducible exact LeO.none _)
    | (with_reducible refine LeO.ite ?_ ?_)
    | (with_reducible refine LeO.bind ?_ (fun _ => ?_))
    | exact ih0 _ _ _ _
    | exact ih1 _ _ _ _ _ _
    | exact LeO.none _
    | refine LeO.ite ?_ ?_
    | refine LeO.bind ?_ (fun _ => ?_)
theorem spec_l4Ends.mono : ∀ a0 a1 k, LeO (spec_l4Ends.f k a0 a1) (spec_l4Ends.f (k + 1) a0 a1) := by
 intro a0 a1 k
 obtain ⟨ih0, ih1⟩ := spec_l4Ends.mono_l k
 unfold spec_l4Ends.f
 repeat' first
  | (with_reducible exact ih0 _ _ _ _)
  | (with_reducible exact ih1 _ _ _ _ _ _)
  | (with_reducible exact LeO.refl _)
  | (with_reducible exact LeO.none _)
  | (with_reducible refine LeO.ite ?_ ?_)
  | (with_reducible refine LeO.bind ?_ (fun _ => ?_))
  | exact ih0 _ _ _ _
  | exact ih1 _ _ _ _ _ _
  | exact LeO.none _
  | refine LeO.ite ?_ ?_
  | refine LeO.bind ?_ (fun _ => ?_)
set_option maxHeartbeats 8000000 in
set_option maxRecDepth 100000 in
theorem spec_l4Ends.calls (k : Nat) (a0 : Int) (a1 : Int) (r : Int) (w : World) (h : spec_l4Ends.f k a0 a1 = some r) :
 Calls Try.prog 212 #[.int .i64 a0, .int .i64 a1] w fun e w' => e = .returned (.int .i64 r) ∧ Below w.heap.size w w' := by
 have HB := zk (Below.refl w.heap.size w)
 have H : (spec_l4Ends.l0 k a0 a1 (([1] : List Int)) 1) = some r := h
 clear h
 obtain ⟨y477, hy477⟩ : ∃ y_ : List Int, y_ = (([1] : List Int)) := ⟨_, rfl⟩
 replace H : (spec_l4Ends.l0 k a0 a1 y477 1) = some r := by first | (rw [hy477]; with_reducible exact H) | (have H2_ := (Option.bind_some _ _).symm.trans H; rw [hy477]; with_reducible exact H2_) | (have H2_ := (Option.bind_some _ _).symm.trans H; with_reducible exact H2_) | with_reducible exact H | (rw [hy477]; exact H) | exact H
 have Ny477 := zk hy477
 clear hy477
 have H' := zk H
 clear H
 go_enter Try.func212, Try.ntmps212
 go_wp2_with (first | ((with_reducible refine gate_dst (N := 10) rfl ?_); refine Kd.R_lit (Kd.int .i64) _ 3 ?hg (N := 10) ?hd (xs := ([1] : List Int)) (inner := [.int .i64 1]) (ok := fun _ => True) (okp := fun _ => True) ?hr ?hp (fun _ hk => hk) trivial (Below.refl _ _) (Nat.le_refl _) (by simp) ?_; (case hd => rfl); (case hg => rfl); (case hr => first | (go_simp; done) | (go_simp; rfl)); (case hp => exact (Reps.one (show Kd.M (Kd.int .i64) _ _ _ 1 [.int .i64 1] from rfl) (Reps.none _ _))); intro v478 w3 ho4 hb hg_ hnew_; clear hg_ hnew_; (first | rw [← Ny477.out] at ho4 | (simp only [Int.reduceToNat] at ho4; rw [← Ny477.out] at ho4)); have n0_ := zk (Kd.R_lower ho4 (below_size (by repeat (first | exact HB.out | apply za | apply zd | apply ze)))); have n1_ := zk (below_step (by repeat (first | exact HB.out | apply za | apply zd | apply ze)) hb); clear HB; have HO479 := n0_; have HB := n1_; clear n0_ n1_; clear hb ho4))
 go_loopg [5, 6] k (fun kq v5 v6 w' => ∃ (x5_1 : List Int) (x6_1 : Int), v6 = .int .i64 x6_1 ∧ Aside0 (spec_l4Ends.l0 kq a0 a1 x5_1 x6_1 = some r) ∧ Aside0 (kq ≤ k) ∧ Aside0 (Kd.R (Kd.int .i64) 3 w' w.heap.size (fun _ => True) v5 x5_1) ∧ Aside0 (Below w.heap.size w w'))
 case atStart => exact ⟨(y477), (1), (by first | rfl | (simp; done) | (simp [*]; done)), H', ⟨Nat.le_refl _⟩, ⟨by (with_reducible repeat (first | apply zs | apply zr | apply zt)); exact HO479.out⟩, ⟨by repeat (first | exact HB.out | apply za | apply zd | apply ze)⟩⟩
 case round =>
  clear H'
  try clear c2
  try clear p2
  obtain ⟨x5_1, x6_1, rfl, HA, HK1, HO_5, HB⟩ := hrel
  cases gk with
  | zero => exact absurd HA.out (by simp [spec_l4Ends.l0])
  | succ k1 =>
   have H := HA.out
   clear HA
   simp only [spec_l4Ends.l0] at H
   by_cases c5 : x6_1 ≤ a1
   · rw [if_pos c5] at H
     have c5b0 : decide (x6_1 ≤ a1) = true := decide_eq_true c5
     clear c5
     obtain ⟨y481, hy481⟩ : ∃ y_ : List Int, y_ = (([] : List Int)) := ⟨_, rfl⟩
     replace H : (spec_l4Ends.l1 k1 a0 a1 x5_1 x6_1 y481 0) = some r := by first | (rw [hy481]; with_reducible exact H) | (have H2_ := (Option.bind_some _ _).symm.trans H; rw [hy481]; with_reducible exact H2_) | (have H2_ := (Option.bind_some _ _).symm.trans H; with_reducible exact H2_) | with_reducible exact H | (rw [hy481]; exact H) | exact H
     have Ny481 := zk hy481
     clear hy481
     have H' := zk H
     clear H
     go_wp2_with (first | ((with_reducible refine gate_dst (N := 16) rfl ?_); refine Kd.R_lit (Kd.int .i64) _ 3 ?hg (N := 16) ?hd (xs := ([] : List Int)) (inner := []) (ok := fun _ => True) (okp := fun _ => True) ?hr ?hp (fun _ hk => hk) trivial (Below.refl _ _) (Nat.le_refl _) (by simp) ?_; (case hd => rfl); (case hg => rfl); (case hr => first | (go_simp; done) | (go_simp; rfl)); (case hp => exact (Reps.none _ _)); intro v482 w6 ho7 hb hg_ hnew_; clear hg_ hnew_; (first | rw [← Ny481.out] at ho7 | (simp only [Int.reduceToNat] at ho7; rw [← Ny481.out] at ho7)); have n0_ := zk (Kd.R_elder' (by (with_reducible repeat (first | apply zs | apply zr | apply zt)); exact HO_5.out) (Kd.R_base ho7) hb); have n1_ := zk (Kd.R_lower (Kd.R_new' ho7 (Kd.R_lt (by (with_reducible repeat (first | apply zs | apply zr | apply zt)); exact HO_5.out))) (below_size (by repeat (first | exact HB.out | apply za | apply zd | apply ze)))); have n2_ := zk (below_step (by repeat (first | exact HB.out | apply za | apply zd | apply ze)) hb); clear HO_5; clear HB; have HO_5 := n0_; have HO483 := n1_; have HB := n2_; clear n0_ n1_ n2_; clear hb ho7))
     go_loopg [7, 8] k1 (fun kq v7 v8 w' => ∃ (x7_2 : List Int) (x8_2 : Int), v8 = .int .i64 x8_2 ∧ Aside0 (spec_l4Ends.l1 kq a0 a1 x5_1 x6_1 x7_2 x8_2 = some r) ∧ Aside0 (kq ≤ k1) ∧ Aside0 (Kd.R (Kd.int .i64) 3 w' w.heap.size (fun k_ => some k_ ≠ (v7 : Value).ownBlock) u5 x5_1) ∧ Aside0 (Kd.R (Kd.int .i64) 3 w' w.heap.size (fun k_ => some k_ ≠ (u5 : Value).ownBlock) v7 x7_2) ∧ Aside0 (Below w.heap.size w w'))
     case atStart => exact ⟨(y481), (0), (by first | rfl | (simp; done) | (simp [*]; done)), H', ⟨Nat.le_refl _⟩, ⟨by (with_reducible repeat (first | apply zs | apply zr | apply zt)); exact Kd.R_mono HO_5.out (fun _ hk => hk.2)⟩, ⟨by (with_reducible repeat (first | apply zs | apply zr | apply zt)); exact Kd.R_mono HO483.out (fun _ hk => hk.2)⟩, ⟨by repeat (first | exact HB.out | apply za | apply zd | apply ze)⟩⟩
     case round =>
      clear H'
      try clear c2
      try clear p2
      try clear c5
      try clear c5b0
      try clear p2
      obtain ⟨x7_2, x8_2, rfl, HA, HK2, HO_5, HO_7, HB⟩ := hrel
      cases gk with
      | zero => exact absurd HA.out (by simp [spec_l4Ends.l1])
      | succ k2 =>
       have H := HA.out
       clear HA
       simp only [spec_l4Ends.l1] at H
       by_cases c8 : x8_2 ≤ x6_1
       · rw [if_pos c8] at H
         have c8b0 : decide (x8_2 ≤ x6_1) = true := decide_eq_true c8
         clear c8
         by_cases c9 : x8_2 > 0
         · rw [if_pos c9] at H
           have c9b0 : decide (0 < x8_2) = true := decide_eq_true c9
           clear c9
           obtain ⟨ji10, hji10⟩ : ∃ j_ : Int, (wrap64 (x8_2 - 1)) = j_ := ⟨_, rfl⟩
           replace H : (if 0 ≤ (ji10) then (if (ji10) < (x5_1.length : Int) then (if (wrap64 (x8_2 + 1)) < (x5_1.length : Int) then (if 0 ≤ (wrap64 (x8_2 + 1)) then (if x7_2.length < 17592186044416 then (spec_l4Ends.l1 k2 a0 a1 x5_1 x6_1 (x7_2 ++ [wrap64 ((rd x5_1 (ji10)) + (rd x5_1 (wrap64 (x8_2 + 1))))]) (wrap64 (x8_2 + 1))) else (none)) else (none)) else (if x7_2.length < 17592186044416 then (spec_l4Ends.l1 k2 a0 a1 x5_1 x6_1 (x7_2 ++ [rd x5_1 (ji10)]) (wrap64 (x8_2 + 1))) else (none))) else (none)) else (none)) = some r := by first | (rw [hji10] at H; exact H) | (simp only [hji10] at H ⊢; exact H)
           have hji10w : (IntKind.i64.wrap (x8_2 - 1)) = ji10 := (i64_w _).trans hji10
           by_cases c11 : 0 ≤ (ji10)
           · rw [if_pos c11] at H
             have c11b0 : decide (0 ≤ (ji10)) = true := decide_eq_true c11
             clear c11
             by_cases c12 : (ji10) < (x5_1.length : Int)
             · rw [if_pos c12] at H
               have c12b0 : decide ((ji10) < (x5_1.length : Int)) = true := decide_eq_true c12
               clear c12
               by_cases c13 : (wrap64 (x8_2 + 1)) < (x5_1.length : Int)
               · rw [if_pos c13] at H
                 have c13b0 : decide ((wrap64 (x8_2 + 1)) < (x5_1.length : Int)) = true := decide_eq_true c13
                 clear c13
                 obtain ⟨ji14, hji14⟩ : ∃ j_ : Int, (wrap64 (x8_2 + 1)) = j_ := ⟨_, rfl⟩
                 replace H : (if 0 ≤ (ji14) then (if x7_2.length < 17592186044416 then (spec_l4Ends.l1 k2 a0 a1 x5_1 x6_1 (x7_2 ++ [wrap64 ((rd x5_1 (ji10)) + (rd x5_1 (ji14)))]) ji14) else (none)) else (none)) = some r := by first | (rw [hji14] at H; exact H) | (simp only [hji14] at H ⊢; exact H)
                 (try rw [hji14] at c13b0)
                 have hji14w : (IntKind.i64.wrap (x8_2 + 1)) = ji14 := (i64_w _).trans hji14
                 by_cases c15 : 0 ≤ (ji14)
                 · rw [if_pos c15] at H
                   have c15b0 : decide (0 ≤ (ji14)) = true := decide_eq_true c15
                   clear c15
                   by_cases c16 : x7_2.length < 17592186044416
                   · rw [if_pos c16] at H
                     have LMc16 := zk c16
                     clear c16
                     obtain ⟨y486, hy486⟩ : ∃ y_ : List Int, y_ = (x7_2 ++ [wrap64 ((rd x5_1 (ji10)) + (rd x5_1 (ji14)))]) := ⟨_, rfl⟩
                     replace H : (spec_l4Ends.l1 k2 a0 a1 x5_1 x6_1 y486 ji14) = some r := by first | (rw [hy486]; with_reducible exact H) | (have H2_ := (Option.bind_some _ _).symm.trans H; rw [hy486]; with_reducible exact H2_) | (have H2_ := (Option.bind_some _ _).symm.trans H; with_reducible exact H2_) | with_reducible exact H | (rw [hy486]; exact H) | exact H
                     have Ny486 := zk hy486
                     clear hy486
                     have H' := zk H
                     clear H
                     obtain ⟨Ao17, co17, eo17⟩ := Kd.R_slice HO_5.out
                     subst eo17
                     have p484 : 0 ≤ ((ji10) : Int) := zo (by assumption)
                     have q484 : (ji10) < (x5_1.length : Int) := zo (by assumption)
                     obtain ⟨ad484, e484, hx484_0⟩ := Kd.at_int (Kd.R_reads' HO_5.out).2.2 (ji10) p484 q484
                     cases e484
                     replace p484 := eq_true p484
                     replace q484 := eq_true q484
                     have p485 : 0 ≤ ((ji14) : Int) := zo (by assumption)
                     have q485 : (ji14) < (x5_1.length : Int) := zo (by assumption)
                     obtain ⟨ad485, e485, hx485_0⟩ := Kd.at_int (Kd.R_reads' HO_5.out).2.2 (ji14) p485 q485
                     obtain rfl : ad484 = ad485 := (by injection e485)
                     replace p485 := eq_true p485
                     replace q485 := eq_true q485
                     go_wp2_with (first | ((with_reducible refine gate_builtin (b := .append) (xs := #[.tmp 41, .tmp 43]) rfl ?_); at_builtin; refine Kd.R_append (Kd.int .i64) (w0 := w) w.heap.size rfl (.tmp 41) (.tmp 43) 22 3 (.int .i64 0) 8 rfl Try.underlying22 info3 rfl (by decide) (by omega) u7 x7_2 (wrap64 ((rd x5_1 (ji10)) + (rd x5_1 (ji14)))) [.int .i64 (wrap64 ((rd x5_1 (ji10)) + (rd x5_1 (ji14))))] (fun k_ => some k_ ≠ (.slice (some ad484) x5_1.length co17 : Value).ownBlock) (fun _ => False) rfl rfl ?aP (fun _ hk => hk.elim) ?aF ?aO ?aB ?aS ?aL ?_; (case aP => exact rfl); (case aB => exact (by repeat (first | exact HB.out | apply za | apply zd | apply ze))); (case aF => exact (fun k_ hk => Kd.fresh' (Kd.R_lt (by (with_reducible repeat (first | apply zs | apply zr | apply zt)); exact HO_5.out)) k_ hk)); (case aO => exact (by (with_reducible repeat (first | apply zs | apply zr | apply zt)); exact HO_7.out)); (case aS => exact (below_size (by repeat (first | exact HB.out | apply za | apply zd | apply ze)))); (case aL => have := LMc16.out; omega); intro v487 w18 ho hb hg hat; rw [← Ny486.out] at ho; have n0_ := zk (Kd.R_after (ok := (fun _ => True)) (by (with_reducible repeat (first | apply zs | apply zr | apply zt)); first | exact Kd.R_mono HO_5.out (fun _ hk => ⟨trivial, hk⟩) | exact Kd.R_mono HO_5.out (fun k_ hk => by (have own_ : ∀ (A : Option Addr) (n c : Nat), (Value.slice A n c).ownBlock = A.map Addr.block := fun A n c => by cases A <;> rfl); simp only [own_] at hk ⊢; exact ⟨trivial, hk⟩)) hg hat); have n1_ := zk (hb); have n2_ := zk (ho); clear HO_5; clear HB; clear HO_7; have HO_5 := n0_; have HB := n1_; have HO488 := n2_; clear n0_ n1_ n2_; clear ho hb hg hat))
                     go_roundg k2
                     case measure => have := HK1.out; have := HK2.out; omega
                     case rel => exact ⟨(y486), (ji14), (by first | rfl | (simp; done) | (simp only [← hji14] <;> (first | rfl | simp)) | (simp [*]; done)), H', ⟨by have := HK1.out; have := HK2.out; omega⟩, ⟨by (with_reducible repeat (first | apply zs | apply zr | apply zt)); exact Kd.R_mono HO_5.out (fun _ hk => hk.2)⟩, ⟨by (with_reducible repeat (first | apply zs | apply zr | apply zt)); exact HO488.out⟩, ⟨by repeat (first | exact HB.out | apply za | apply zd | apply ze)⟩⟩
                   · rw [if_neg c16] at H
                     exact absurd H (by simp)
                 · rw [if_neg c15] at H
                   exact absurd H (by simp)
               · rw [if_neg c13] at H
                 have c13b0 : decide ((wrap64 (x8_2 + 1)) < (x5_1.length : Int)) = false := decide_eq_false c13
                 clear c13
                 by_cases c19 : x7_2.length < 17592186044416
                 · rw [if_pos c19] at H
                   have LMc19 := zk c19
                   clear c19
                   obtain ⟨y489, hy489⟩ : ∃ y_ : List Int, y_ = (x7_2 ++ [rd x5_1 (ji10)]) := ⟨_, rfl⟩
                   replace H : (spec_l4Ends.l1 k2 a0 a1 x5_1 x6_1 y489 (wrap64 (x8_2 + 1))) = some r := by first | (rw [hy489]; with_reducible exact H) | (have H2_ := (Option.bind_some _ _).symm.trans H; rw [hy489]; with_reducible exact H2_) | (have H2_ := (Option.bind_some _ _).symm.trans H; with_reducible exact H2_) | with_reducible exact H | (rw [hy489]; exact H) | exact H
                   have Ny489 := zk hy489
                   clear hy489
                   have H' := zk H
                   clear H
                   obtain ⟨Ao20, co20, eo20⟩ := Kd.R_slice HO_5.out
                   subst eo20
                   have p484 : 0 ≤ ((ji10) : Int) := zo (by assumption)
                   have q484 : (ji10) < (x5_1.length : Int) := zo (by assumption)
                   obtain ⟨ad484, e484, hx484_0⟩ := Kd.at_int (Kd.R_reads' HO_5.out).2.2 (ji10) p484 q484
                   cases e484
                   replace p484 := eq_true p484
                   replace q484 := eq_true q484
                   go_wp2_with (first | ((with_reducible refine gate_builtin (b := .append) (xs := #[.tmp 41, .tmp 43]) rfl ?_); at_builtin; refine Kd.R_append (Kd.int .i64) (w0 := w) w.heap.size rfl (.tmp 41) (.tmp 43) 22 3 (.int .i64 0) 8 rfl Try.underlying22 info3 rfl (by decide) (by omega) u7 x7_2 (rd x5_1 (ji10)) [.int .i64 (rd x5_1 (ji10))] (fun k_ => some k_ ≠ (.slice (some ad484) x5_1.length co20 : Value).ownBlock) (fun _ => False) rfl rfl ?aP (fun _ hk => hk.elim) ?aF ?aO ?aB ?aS ?aL ?_; (case aP => exact rfl); (case aB => exact (by repeat (first | exact HB.out | apply za | apply zd | apply ze))); (case aF => exact (fun k_ hk => Kd.fresh' (Kd.R_lt (by (with_reducible repeat (first | apply zs | apply zr | apply zt)); exact HO_5.out)) k_ hk)); (case aO => exact (by (with_reducible repeat (first | apply zs | apply zr | apply zt)); exact HO_7.out)); (case aS => exact (below_size (by repeat (first | exact HB.out | apply za | apply zd | apply ze)))); (case aL => have := LMc19.out; omega); intro v490 w21 ho hb hg hat; rw [← Ny489.out] at ho; have n0_ := zk (Kd.R_after (ok := (fun _ => True)) (by (with_reducible repeat (first | apply zs | apply zr | apply zt)); first | exact Kd.R_mono HO_5.out (fun _ hk => ⟨trivial, hk⟩) | exact Kd.R_mono HO_5.out (fun k_ hk => by (have own_ : ∀ (A : Option Addr) (n c : Nat), (Value.slice A n c).ownBlock = A.map Addr.block := fun A n c => by cases A <;> rfl); simp only [own_] at hk ⊢; exact ⟨trivial, hk⟩)) hg hat); have n1_ := zk (hb); have n2_ := zk (ho); clear HO_5; clear HB; clear HO_7; have HO_5 := n0_; have HB := n1_; have HO491 := n2_; clear n0_ n1_ n2_; clear ho hb hg hat))
                   go_roundg k2
                   case measure => have := HK1.out; have := HK2.out; omega
                   case rel => exact ⟨(y489), (wrap64 (x8_2 + 1)), (by first | rfl | (simp; done) | (simp [*]; done)), H', ⟨by have := HK1.out; have := HK2.out; omega⟩, ⟨by (with_reducible repeat (first | apply zs | apply zr | apply zt)); exact Kd.R_mono HO_5.out (fun _ hk => hk.2)⟩, ⟨by (with_reducible repeat (first | apply zs | apply zr | apply zt)); exact HO491.out⟩, ⟨by repeat (first | exact HB.out | apply za | apply zd | apply ze)⟩⟩
                 · rw [if_neg c19] at H
                   exact absurd H (by simp)
             · rw [if_neg c12] at H
               exact absurd H (by simp)
           · rw [if_neg c11] at H
             exact absurd H (by simp)
         · rw [if_neg c9] at H
           have c9b0 : decide (0 < x8_2) = false := decide_eq_false c9
           clear c9
           by_cases c22 : (wrap64 (x8_2 + 1)) < (x5_1.length : Int)
           · rw [if_pos c22] at H
             have c22b0 : decide ((wrap64 (x8_2 + 1)) < (x5_1.length : Int)) = true := decide_eq_true c22
             clear c22
             obtain ⟨ji23, hji23⟩ : ∃ j_ : Int, (wrap64 (x8_2 + 1)) = j_ := ⟨_, rfl⟩
             replace H : (if 0 ≤ (ji23) then (if x7_2.length < 17592186044416 then (spec_l4Ends.l1 k2 a0 a1 x5_1 x6_1 (x7_2 ++ [wrap64 ((rd x5_1 (ji23)))]) ji23) else (none)) else (none)) = some r := by first | (rw [hji23] at H; exact H) | (simp only [hji23] at H ⊢; exact H)
             (try rw [hji23] at c22b0)
             have hji23w : (IntKind.i64.wrap (x8_2 + 1)) = ji23 := (i64_w _).trans hji23
             by_cases c24 : 0 ≤ (ji23)
             · rw [if_pos c24] at H
               have c24b0 : decide (0 ≤ (ji23)) = true := decide_eq_true c24
               clear c24
               by_cases c25 : x7_2.length < 17592186044416
               · rw [if_pos c25] at H
                 have LMc25 := zk c25
                 clear c25
                 obtain ⟨y493, hy493⟩ : ∃ y_ : List Int, y_ = (x7_2 ++ [wrap64 ((rd x5_1 (ji23)))]) := ⟨_, rfl⟩
                 replace H : (spec_l4Ends.l1 k2 a0 a1 x5_1 x6_1 y493 ji23) = some r := by first | (rw [hy493]; with_reducible exact H) | (have H2_ := (Option.bind_some _ _).symm.trans H; rw [hy493]; with_reducible exact H2_) | (have H2_ := (Option.bind_some _ _).symm.trans H; with_reducible exact H2_) | with_reducible exact H | (rw [hy493]; exact H) | exact H
                 have Ny493 := zk hy493
                 clear hy493
                 have H' := zk H
                 clear H
                 obtain ⟨Ao26, co26, eo26⟩ := Kd.R_slice HO_5.out
                 subst eo26
                 have p492 : 0 ≤ ((ji23) : Int) := zo (by assumption)
                 have q492 : (ji23) < (x5_1.length : Int) := zo (by assumption)
                 obtain ⟨ad492, e492, hx492_0⟩ := Kd.at_int (Kd.R_reads' HO_5.out).2.2 (ji23) p492 q492
                 cases e492
                 replace p492 := eq_true p492
                 replace q492 := eq_true q492
                 go_wp2_with (first | ((with_reducible refine gate_builtin (b := .append) (xs := #[.tmp 41, .tmp 43]) rfl ?_); at_builtin; refine Kd.R_append (Kd.int .i64) (w0 := w) w.heap.size rfl (.tmp 41) (.tmp 43) 22 3 (.int .i64 0) 8 rfl Try.underlying22 info3 rfl (by decide) (by omega) u7 x7_2 (wrap64 ((rd x5_1 (ji23)))) [.int .i64 (wrap64 ((rd x5_1 (ji23))))] (fun k_ => some k_ ≠ (.slice (some ad492) x5_1.length co26 : Value).ownBlock) (fun _ => False) rfl rfl ?aP (fun _ hk => hk.elim) ?aF ?aO ?aB ?aS ?aL ?_; (case aP => exact rfl); (case aB => exact (by repeat (first | exact HB.out | apply za | apply zd | apply ze))); (case aF => exact (fun k_ hk => Kd.fresh' (Kd.R_lt (by (with_reducible repeat (first | apply zs | apply zr | apply zt)); exact HO_5.out)) k_ hk)); (case aO => exact (by (with_reducible repeat (first | apply zs | apply zr | apply zt)); exact HO_7.out)); (case aS => exact (below_size (by repeat (first | exact HB.out | apply za | apply zd | apply ze)))); (case aL => have := LMc25.out; omega); intro v494 w27 ho hb hg hat; rw [← Ny493.out] at ho; have n0_ := zk (Kd.R_after (ok := (fun _ => True)) (by (with_reducible repeat (first | apply zs | apply zr | apply zt)); first | exact Kd.R_mono HO_5.out (fun _ hk => ⟨trivial, hk⟩) | exact Kd.R_mono HO_5.out (fun k_ hk => by (have own_ : ∀ (A : Option Addr) (n c : Nat), (Value.slice A n c).ownBlock = A.map Addr.block := fun A n c => by cases A <;> rfl); simp only [own_] at hk ⊢; exact ⟨trivial, hk⟩)) hg hat); have n1_ := zk (hb); have n2_ := zk (ho); clear HO_5; clear HB; clear HO_7; have HO_5 := n0_; have HB := n1_; have HO495 := n2_; clear n0_ n1_ n2_; clear ho hb hg hat))
                 go_roundg k2
                 case measure => have := HK1.out; have := HK2.out; omega
                 case rel => exact ⟨(y493), (ji23), (by first | rfl | (simp; done) | (simp only [← hji23] <;> (first | rfl | simp)) | (simp [*]; done)), H', ⟨by have := HK1.out; have := HK2.out; omega⟩, ⟨by (with_reducible repeat (first | apply zs | apply zr | apply zt)); exact Kd.R_mono HO_5.out (fun _ hk => hk.2)⟩, ⟨by (with_reducible repeat (first | apply zs | apply zr | apply zt)); exact HO495.out⟩, ⟨by repeat (first | exact HB.out | apply za | apply zd | apply ze)⟩⟩
               · rw [if_neg c25] at H
                 exact absurd H (by simp)
             · rw [if_neg c24] at H
               exact absurd H (by simp)
           · rw [if_neg c22] at H
             have c22b0 : decide ((wrap64 (x8_2 + 1)) < (x5_1.length : Int)) = false := decide_eq_false c22
             clear c22
             by_cases c28 : x7_2.length < 17592186044416
             · rw [if_pos c28] at H
               have LMc28 := zk c28
               clear c28
               obtain ⟨y496, hy496⟩ : ∃ y_ : List Int, y_ = (x7_2 ++ [0]) := ⟨_, rfl⟩
               replace H : (spec_l4Ends.l1 k2 a0 a1 x5_1 x6_1 y496 (wrap64 (x8_2 + 1))) = some r := by first | (rw [hy496]; with_reducible exact H) | (have H2_ := (Option.bind_some _ _).symm.trans H; rw [hy496]; with_reducible exact H2_) | (have H2_ := (Option.bind_some _ _).symm.trans H; with_reducible exact H2_) | with_reducible exact H | (rw [hy496]; exact H) | exact H
               have Ny496 := zk hy496
               clear hy496
               have H' := zk H
               clear H
               obtain ⟨Ao29, co29, eo29⟩ := Kd.R_slice HO_5.out
               subst eo29
               go_wp2_with (first | ((with_reducible refine gate_builtin (b := .append) (xs := #[.tmp 41, .tmp 43]) rfl ?_); at_builtin; refine Kd.R_append (Kd.int .i64) (w0 := w) w.heap.size rfl (.tmp 41) (.tmp 43) 22 3 (.int .i64 0) 8 rfl Try.underlying22 info3 rfl (by decide) (by omega) u7 x7_2 0 [.int .i64 0] (fun k_ => some k_ ≠ (.slice Ao29 x5_1.length co29 : Value).ownBlock) (fun _ => False) rfl rfl ?aP (fun _ hk => hk.elim) ?aF ?aO ?aB ?aS ?aL ?_; (case aP => exact rfl); (case aB => exact (by repeat (first | exact HB.out | apply za | apply zd | apply ze))); (case aF => exact (fun k_ hk => Kd.fresh' (Kd.R_lt (by (with_reducible repeat (first | apply zs | apply zr | apply zt)); exact HO_5.out)) k_ hk)); (case aO => exact (by (with_reducible repeat (first | apply zs | apply zr | apply zt)); exact HO_7.out)); (case aS => exact (below_size (by repeat (first | exact HB.out | apply za | apply zd | apply ze)))); (case aL => have := LMc28.out; omega); intro v497 w30 ho hb hg hat; rw [← Ny496.out] at ho; have n0_ := zk (Kd.R_after (ok := (fun _ => True)) (by (with_reducible repeat (first | apply zs | apply zr | apply zt)); first | exact Kd.R_mono HO_5.out (fun _ hk => ⟨trivial, hk⟩) | exact Kd.R_mono HO_5.out (fun k_ hk => by (have own_ : ∀ (A : Option Addr) (n c : Nat), (Value.slice A n c).ownBlock = A.map Addr.block := fun A n c => by cases A <;> rfl); simp only [own_] at hk ⊢; exact ⟨trivial, hk⟩)) hg hat); have n1_ := zk (hb); have n2_ := zk (ho); clear HO_5; clear HB; clear HO_7; have HO_5 := n0_; have HB := n1_; have HO498 := n2_; clear n0_ n1_ n2_; clear ho hb hg hat))
               go_roundg k2
               case measure => have := HK1.out; have := HK2.out; omega
               case rel => exact ⟨(y496), (wrap64 (x8_2 + 1)), (by first | rfl | (simp; done) | (simp [*]; done)), H', ⟨by have := HK1.out; have := HK2.out; omega⟩, ⟨by (with_reducible repeat (first | apply zs | apply zr | apply zt)); exact Kd.R_mono HO_5.out (fun _ hk => hk.2)⟩, ⟨by (with_reducible repeat (first | apply zs | apply zr | apply zt)); exact HO498.out⟩, ⟨by repeat (first | exact HB.out | apply za | apply zd | apply ze)⟩⟩
             · rw [if_neg c28] at H
               exact absurd H (by simp)
       · rw [if_neg c8] at H
         have c8b0 : decide (x8_2 ≤ x6_1) = false := decide_eq_false c8
         clear c8
         have H' := zk H
         clear H
         go_wp2
         go_roundg k2
         case measure => have := HK1.out; have := HK2.out; omega
         case rel => exact ⟨(x7_2), (wrap64 (x6_1 + 1)), (by first | rfl | (simp; done) | (simp [*]; done)), H', ⟨by have := HK1.out; have := HK2.out; omega⟩, ⟨by (with_reducible repeat (first | apply zs | apply zr | apply zt)); exact Kd.R_mono HO_7.out (fun _ hk => trivial)⟩, ⟨by repeat (first | exact HB.out | apply za | apply zd | apply ze)⟩⟩
   · rw [if_neg c5] at H
     have c5b0 : decide (x6_1 ≤ a1) = false := decide_eq_false c5
     clear c5
     by_cases c31 : a0 ≥ (x5_1.length : Int)
     · rw [if_pos c31] at H
       have c31b0 : decide ((x5_1.length : Int) ≤ a0) = true := decide_eq_true c31
       clear c31
       obtain rfl := Option.some.inj H
       obtain ⟨Ao32, co32, eo32⟩ := Kd.R_slice HO_5.out
       subst eo32
       go_wp2
       go_ret
       exact ⟨by first | rfl | (simp [errW_none, errW_some] <;> rfl) | (simp [*, errW_none, errW_some] <;> rfl), by repeat (first | exact HB.out | apply za | apply zd | apply ze)⟩
     · rw [if_neg c31] at H
       have c31b0 : decide ((x5_1.length : Int) ≤ a0) = false := decide_eq_false c31
       clear c31
       by_cases c33 : 0 ≤ a0
       · rw [if_pos c33] at H
         have c33b0 : decide (0 ≤ a0) = true := decide_eq_true c33
         clear c33
         by_cases c34 : a0 < (x5_1.length : Int)
         · rw [if_pos c34] at H
           have c34b0 : decide (a0 < (x5_1.length : Int)) = true := decide_eq_true c34
           clear c34
           obtain rfl := Option.some.inj H
           obtain ⟨Ao35, co35, eo35⟩ := Kd.R_slice HO_5.out
           subst eo35
           have p480 : 0 ≤ (a0 : Int) := zo (by assumption)
           have q480 : a0 < (x5_1.length : Int) := zo (by assumption)
           obtain ⟨ad480, e480, hx480_0⟩ := Kd.at_int (Kd.R_reads' HO_5.out).2.2 a0 p480 q480
           cases e480
           replace p480 := eq_true p480
           replace q480 := eq_true q480
           go_wp2
           go_ret
           exact ⟨by first | rfl | (simp [errW_none, errW_some] <;> rfl) | (simp [*, errW_none, errW_some] <;> rfl), by repeat (first | exact HB.out | apply za | apply zd | apply ze)⟩
         · rw [if_neg c34] at H
           exact absurd H (by simp)
       · rw [if_neg c33] at H
         exact absurd H (by simp)

/-! ### spec_l4WordRank: function 211 -/
def spec_l4WordRank.l0 : Nat → ByteArray → Int → Int → Int → Option (Int)
 | 0, _, _, _, _ => none
 | k + 1, x0, x3, x4, x5 => if x5 < (x0.size : Int) then (if 0 ≤ x5 then (if (bt x0 x5) = 73 then (spec_l4WordRank.l0 k x0 x3 (wrap64 (x4 + 1)) (wrap64 (x5 + 1))) else ((spec_l4Ends.f k (wrap64 (x4 + 1)) (wrap64 ((wrap64 ((x0.size : Int) - 1)) - x5))).bind fun t499 => (spec_l4WordRank.l0 k x0 (wrap64 (x3 + t499)) (wrap64 (x4 - 1)) (wrap64 (x5 + 1))))) else (none)) else (some x3)
def spec_l4WordRank.f (k : Nat) (a0 : ByteArray) : Option (Int) := spec_l4WordRank.l0 k a0 0 0 0
set_option maxHeartbeats 8000000 in
set_option maxRecDepth 100000 in
theorem spec_l4WordRank.calls (k : Nat) (a0 : ByteArray) (r : Int) (w : World) (h : spec_l4WordRank.f k a0 = some r) :
 Calls Try.prog 211 #[.string a0] w fun e w' => e = .returned (.int .i64 r) ∧ Below w.heap.size w w' := by
 have HB := zk (Below.refl w.heap.size w)
 have H : (spec_l4WordRank.l0 k a0 0 0 0) = some r := h
 clear h
 have H' := zk H
 clear H
 go_enter Try.func211, Try.ntmps211
 go_wp2
 go_loopg [3, 4, 5] k (fun kq v3 v4 v5 w' => ∃ (x3_1 : Int) (x4_1 : Int) (x5_1 : Int), v3 = .int .i64 x3_1 ∧ v4 = .int .i64 x4_1 ∧ v5 = .int .i64 x5_1 ∧ Aside0 (spec_l4WordRank.l0 kq a0 x3_1 x4_1 x5_1 = some r) ∧ Aside0 (kq ≤ k) ∧ Aside0 (Below w.heap.size w w'))
 case atStart => exact ⟨(0), (0), (0), (by first | rfl | (simp; done) | (simp [*]; done)), (by first | rfl | (simp; done) | (simp [*]; done)), (by first | rfl | (simp; done) | (simp [*]; done)), H', ⟨Nat.le_refl _⟩, ⟨by repeat (first | exact HB.out | apply za | apply zd | apply ze)⟩⟩
 case round =>
  clear H'
  obtain ⟨x3_1, x4_1, x5_1, rfl, rfl, rfl, HA, HK1, HB⟩ := hrel
  cases gk with
  | zero => exact absurd HA.out (by simp [spec_l4WordRank.l0])
  | succ k1 =>
   have H := HA.out
   clear HA
   simp only [spec_l4WordRank.l0] at H
   by_cases c2 : x5_1 < (a0.size : Int)
   · rw [if_pos c2] at H
     have c2b0 : decide (x5_1 < (a0.size : Int)) = true := decide_eq_true c2
     clear c2
     by_cases c3 : 0 ≤ x5_1
     · rw [if_pos c3] at H
       have c3b0 : decide (0 ≤ x5_1) = true := decide_eq_true c3
       clear c3
       by_cases c5 : (bt a0 x5_1) = 73
       · rw [if_pos c5] at H
         have c5b0 : ((bt a0 x5_1) == 73) = true := beq_iff_eq.mpr c5
         have c5b1 : ((bt a0 x5_1) != 73) = false := bne_eq_false_iff_eq.mpr c5
         clear c5
         have H' := zk H
         clear H
         have p4 : 0 ≤ (x5_1 : Int) := zo (by assumption)
         have q4 : x5_1 < (a0.size : Int) := zo (by assumption)
         have hx4 := bt_at a0 x5_1
         replace p4 := eq_true p4
         replace q4 := eq_true q4
         go_wp2
         go_roundg k1
         case measure => have := HK1.out; omega
         case rel => exact ⟨(x3_1), (wrap64 (x4_1 + 1)), (wrap64 (x5_1 + 1)), (by first | rfl | (simp; done) | (simp [*]; done)), (by first | rfl | (simp; done) | (simp [*]; done)), (by first | rfl | (simp; done) | (simp [*]; done)), H', ⟨by have := HK1.out; omega⟩, ⟨by repeat (first | exact HB.out | apply za | apply zd | apply ze)⟩⟩
       · rw [if_neg c5] at H
         have c5b0 : ((bt a0 x5_1) == 73) = false := beq_eq_false_iff_ne.mpr c5
         have c5b1 : ((bt a0 x5_1) != 73) = true := bne_iff_ne.mpr c5
         replace H := Option.bind_eq_some_iff.mp H
         obtain ⟨t499, A60, H⟩ := H
         try dsimp only at H
         have A6 := zk A60
         clear A60
         have H' := zk H
         clear H
         have p4 : 0 ≤ (x5_1 : Int) := zo (by assumption)
         have q4 : x5_1 < (a0.size : Int) := zo (by assumption)
         have hx4 := bt_at a0 x5_1
         replace p4 := eq_true p4
         replace q4 := eq_true q4
         go_wp2_with (first | ((with_reducible refine gate_callee (f := 212) rfl ?_); refine goesL_ (some 26) rfl rfl Try.func212 (by kernel_rfl) rfl #[.int .i64 (wrap64 (x4_1 + 1)), .int .i64 (wrap64 ((wrap64 ((a0.size : Int) - 1)) - x5_1))] rfl (by (try simp only [List.map_toArray, List.map_cons, List.map_nil]); first | done | rfl | (simp only [List.length_drop, List.length_take]; rfl)) ?_; (with_reducible refine (spec_l4Ends.calls k1 (wrap64 (x4_1 + 1)) (wrap64 ((wrap64 ((a0.size : Int) - 1)) - x5_1)) t499 _ A6.out).mono ?_); rintro e w7 ⟨rfl, hb⟩; refine ⟨_, rfl, ?_⟩; have n0_ := zk (below_step (by repeat (first | exact HB.out | apply za | apply zd | apply ze)) hb); clear HB; have HB := n0_; clear n0_; (try clear hb); (try clear hb2); (try clear hk); (try clear hi)))
         go_roundg k1
         case measure => have := HK1.out; omega
         case rel => exact ⟨(wrap64 (x3_1 + t499)), (wrap64 (x4_1 - 1)), (wrap64 (x5_1 + 1)), (by first | rfl | (simp; done) | (simp [*]; done)), (by first | rfl | (simp; done) | (simp [*]; done)), (by first | rfl | (simp; done) | (simp [*]; done)), H', ⟨by have := HK1.out; omega⟩, ⟨by repeat (first | exact HB.out | apply za | apply zd | apply ze)⟩⟩
     · rw [if_neg c3] at H
       exact absurd H (by simp)
   · rw [if_neg c2] at H
     have c2b0 : decide (x5_1 < (a0.size : Int)) = false := decide_eq_false c2
     clear c2
     obtain rfl := Option.some.inj H
     go_wp2
     go_ret
     exact ⟨by first | rfl | (simp [errW_none, errW_some] <;> rfl) | (simp [*, errW_none, errW_some] <;> rfl), by repeat (first | exact HB.out | apply za | apply zd | apply ze)⟩

/-! ### spec_RankOfWord: function 84 -/
def spec_RankOfWord.f (k : Nat) (a0 : ByteArray) : Option (Int × Bool) := (spec_l2Any.f k a0).bind fun t500 => (if t500 = true then ((spec_l4WordRank.f k a0).bind fun t501 => (some (t501, true))) else (some (0, false)))
set_option maxHeartbeats 8000000 in
set_option maxRecDepth 100000 in
theorem spec_RankOfWord.calls (k : Nat) (a0 : ByteArray) (r1 : Int) (r2 : Bool) (w : World) (h : spec_RankOfWord.f k a0 = some (r1, r2)) :
 Calls Try.prog 84 #[.string a0] w fun e w' => e = .returned (.tuple #[.int .i64 r1, .bool r2]) ∧ Below w.heap.size w w' := by
 have HB := zk (Below.refl w.heap.size w)
 have H : ((spec_l2Any.f k a0).bind fun t500 => (if t500 = true then ((spec_l4WordRank.f k a0).bind fun t501 => (some (t501, true))) else (some (0, false)))) = some (r1, r2) := h
 clear h
 replace H := Option.bind_eq_some_iff.mp H
 obtain ⟨t500, A20, H⟩ := H
 try dsimp only at H
 have A2 := zk A20
 clear A20
 by_cases c3 : t500 = true
 · subst c3
   have H1 : ((spec_l4WordRank.f k a0).bind fun t501 => (some (t501, true))) = some (r1, r2) := by rw [if_pos rfl] at H; exact H
   clear H
   have H := H1
   clear H1
   replace H := Option.bind_eq_some_iff.mp H
   obtain ⟨t501, A40, H⟩ := H
   try dsimp only at H
   have A4 := zk A40
   clear A40
   simp only [Option.some.injEq, Prod.mk.injEq] at H
   obtain ⟨rfl, rfl⟩ := H
   go_enter Try.func84, Try.ntmps84
   go_wp2_with (first | ((with_reducible refine gate_callee (f := 209) rfl ?_); refine goesL_ (some 5) rfl rfl Try.func209 (by kernel_rfl) rfl #[.string a0] rfl (by (try simp only [List.map_toArray, List.map_cons, List.map_nil]); first | done | rfl | (simp only [List.length_drop, List.length_take]; rfl)) ?_; (with_reducible refine (spec_l2Any.calls k a0 true _ A2.out).mono ?_); rintro e w' ⟨rfl, ⟨nd, rfl⟩⟩; refine ⟨_, rfl, ?_⟩) | ((with_reducible refine gate_callee (f := 211) rfl ?_); refine goesL_ (some 8) rfl rfl Try.func211 (by kernel_rfl) rfl #[.string a0] rfl (by (try simp only [List.map_toArray, List.map_cons, List.map_nil]); first | done | rfl | (simp only [List.length_drop, List.length_take]; rfl)) ?_; (with_reducible refine (spec_l4WordRank.calls k a0 t501 _ A4.out).mono ?_); rintro e w5 ⟨rfl, hb⟩; refine ⟨_, rfl, ?_⟩; have n0_ := zk (below_step (by repeat (first | exact HB.out | apply za | apply zd | apply ze)) hb); clear HB; have HB := n0_; clear n0_; (try clear hb); (try clear hb2); (try clear hk); (try clear hi)))
   go_ret2
   exact ⟨by first | rfl | (simp [errW_none, errW_some] <;> rfl) | (simp [*, errW_none, errW_some] <;> rfl), by repeat (first | exact HB.out | apply za | apply zd | apply ze)⟩
 · replace c3 := Bool.eq_false_iff.mpr c3
   subst c3
   have H1 : (some (0, false)) = some (r1, r2) := by rw [if_neg (show ¬ (false = true) by decide)] at H; exact H
   clear H
   have H := H1
   clear H1
   simp only [Option.some.injEq, Prod.mk.injEq] at H
   obtain ⟨rfl, rfl⟩ := H
   go_enter Try.func84, Try.ntmps84
   go_wp2_with (first | ((with_reducible refine gate_callee (f := 209) rfl ?_); refine goesL_ (some 5) rfl rfl Try.func209 (by kernel_rfl) rfl #[.string a0] rfl (by (try simp only [List.map_toArray, List.map_cons, List.map_nil]); first | done | rfl | (simp only [List.length_drop, List.length_take]; rfl)) ?_; (with_reducible refine (spec_l2Any.calls k a0 false _ A2.out).mono ?_); rintro e w' ⟨rfl, ⟨nd, rfl⟩⟩; refine ⟨_, rfl, ?_⟩))
   go_ret2
   exact ⟨by first | rfl | (simp [errW_none, errW_some] <;> rfl) | (simp [*, errW_none, errW_some] <;> rfl), by repeat (first | exact HB.out | apply za | apply zd | apply ze)⟩

/-! ### spec_l1Most: function 179 -/
def spec_l1Most.f (a0 : Int) (a1 : Int) : Option (Int) := if a0 > a1 then (some a0) else (some a1)
set_option maxHeartbeats 8000000 in
set_option maxRecDepth 100000 in
theorem spec_l1Most.calls (a0 : Int) (a1 : Int) (r : Int) (w : World) (h : spec_l1Most.f a0 a1 = some r) :
 Calls Try.prog 179 #[.int .i64 a0, .int .i64 a1] w fun e w' => e = .returned (.int .i64 r) ∧ Drawn0 w w' := by
 have H : (if a0 > a1 then (some a0) else (some a1)) = some r := h
 clear h
 by_cases c3 : a0 > a1
 · rw [if_pos c3] at H
   have c3b0 : decide (a1 < a0) = true := decide_eq_true c3
   clear c3
   obtain rfl := Option.some.inj H
   go_enter Try.func179, Try.ntmps179
   go_wp2
   go_ret
   exact ⟨by first | rfl | (simp; done) | (simp [*]; done), by repeat (first | exact Drawn0.refl _ | apply Drawn0.step)⟩
 · rw [if_neg c3] at H
   have c3b0 : decide (a1 < a0) = false := decide_eq_false c3
   clear c3
   obtain rfl := Option.some.inj H
   go_enter Try.func179, Try.ntmps179
   go_wp2
   go_ret
   exact ⟨by first | rfl | (simp; done) | (simp [*]; done), by repeat (first | exact Drawn0.refl _ | apply Drawn0.step)⟩

/-! ### spec_l1Least: function 196 -/
def spec_l1Least.f (a0 : Int) (a1 : Int) : Option (Int) := if a0 < a1 then (some a0) else (some a1)
set_option maxHeartbeats 8000000 in
set_option maxRecDepth 100000 in
theorem spec_l1Least.calls (a0 : Int) (a1 : Int) (r : Int) (w : World) (h : spec_l1Least.f a0 a1 = some r) :
 Calls Try.prog 196 #[.int .i64 a0, .int .i64 a1] w fun e w' => e = .returned (.int .i64 r) ∧ Drawn0 w w' := by
 have H : (if a0 < a1 then (some a0) else (some a1)) = some r := h
 clear h
 by_cases c3 : a0 < a1
 · rw [if_pos c3] at H
   have c3b0 : decide (a0 < a1) = true := decide_eq_true c3
   clear c3
   obtain rfl := Option.some.inj H
   go_enter Try.func196, Try.ntmps196
   go_wp2
   go_ret
   exact ⟨by first | rfl | (simp; done) | (simp [*]; done), by repeat (first | exact Drawn0.refl _ | apply Drawn0.step)⟩
 · rw [if_neg c3] at H
   have c3b0 : decide (a0 < a1) = false := decide_eq_false c3
   clear c3
   obtain rfl := Option.some.inj H
   go_enter Try.func196, Try.ntmps196
   go_wp2
   go_ret
   exact ⟨by first | rfl | (simp; done) | (simp [*]; done), by repeat (first | exact Drawn0.refl _ | apply Drawn0.step)⟩

/-! ### spec_DrawWordAt: function 85 -/
def spec_DrawWordAt.f (k : Nat) (l0 : List Int) : Option (Int × Int) := (spec_l1Cur_among.f l0 0 0 (([3, 4, 5, 2, 7, 6, 1, 0, 8] : List Int))).bind fun bt506 => ((spec_l1Least.f bt506.1 7).bind fun t509 => ((spec_l1Most.f 1 t509).bind fun t510 => ((spec_l4Ends.f k 0 (wrap64 (2 * t510))).bind fun t511 => ((spec_l1Cur_pick.f l0 bt506.2.1 bt506.2.2 t511).bind fun bt512 => ((spec_l1Cur_pick.f l0 bt512.2.1 bt512.2.2 24).bind fun bt515 => ((spec_l1Cur_pick.f l0 bt515.2.1 bt515.2.2 24).bind fun bt518 => (some (bt506.1, wrap64 ((wrap64 (bt512.1 - (wrap64 (Int.tdiv bt515.1 23)))) + (wrap64 (Int.tdiv bt518.1 23)))))))))))
set_option maxHeartbeats 8000000 in
set_option maxRecDepth 100000 in
theorem spec_DrawWordAt.calls (k : Nat) (A0 : Option Addr) (c0 : Nat) (l0 : List Int) (r1 : Int) (r2 : Int) (w : World) (hr0 : Kd.C (Kd.int .u8) w A0 l0.length l0) (hc0 : l0.length ≤ c0) (h : spec_DrawWordAt.f k l0 = some (r1, r2)) :
 Calls Try.prog 85 #[.slice A0 l0.length c0] w fun e w' => e = .returned (.tuple #[.int .i64 r1, .int .i64 r2]) ∧ Below w.heap.size w w' := by
 have hu102 := Try.underlying102
 have HR0 := zk hr0
 have HC0 := zk hc0
 clear hr0 hc0
 have HB := zk (Below.refl w.heap.size w)
 have H : ((spec_l1Cur_among.f l0 0 0 (([3, 4, 5, 2, 7, 6, 1, 0, 8] : List Int))).bind fun bt506 => ((spec_l1Least.f bt506.1 7).bind fun t509 => ((spec_l1Most.f 1 t509).bind fun t510 => ((spec_l4Ends.f k 0 (wrap64 (2 * t510))).bind fun t511 => ((spec_l1Cur_pick.f l0 bt506.2.1 bt506.2.2 t511).bind fun bt512 => ((spec_l1Cur_pick.f l0 bt512.2.1 bt512.2.2 24).bind fun bt515 => ((spec_l1Cur_pick.f l0 bt515.2.1 bt515.2.2 24).bind fun bt518 => (some (bt506.1, wrap64 ((wrap64 (bt512.1 - (wrap64 (Int.tdiv bt515.1 23)))) + (wrap64 (Int.tdiv bt518.1 23)))))))))))) = some (r1, r2) := h
 clear h
 obtain ⟨y503, hy503⟩ : ∃ y_ : List Int, y_ = (([3, 4, 5, 2, 7, 6, 1, 0, 8] : List Int)) := ⟨_, rfl⟩
 replace H : ((spec_l1Cur_among.f l0 0 0 y503).bind fun bt506 => ((spec_l1Least.f bt506.1 7).bind fun t509 => ((spec_l1Most.f 1 t509).bind fun t510 => ((spec_l4Ends.f k 0 (wrap64 (2 * t510))).bind fun t511 => ((spec_l1Cur_pick.f l0 bt506.2.1 bt506.2.2 t511).bind fun bt512 => ((spec_l1Cur_pick.f l0 bt512.2.1 bt512.2.2 24).bind fun bt515 => ((spec_l1Cur_pick.f l0 bt515.2.1 bt515.2.2 24).bind fun bt518 => (some (bt506.1, wrap64 ((wrap64 (bt512.1 - (wrap64 (Int.tdiv bt515.1 23)))) + (wrap64 (Int.tdiv bt518.1 23)))))))))))) = some (r1, r2) := by first | (rw [hy503]; with_reducible exact H) | (have H2_ := (Option.bind_some _ _).symm.trans H; rw [hy503]; with_reducible exact H2_) | (have H2_ := (Option.bind_some _ _).symm.trans H; with_reducible exact H2_) | with_reducible exact H | (rw [hy503]; exact H) | exact H
 have Ny503 := zk hy503
 clear hy503
 replace H := Option.bind_eq_some_iff.mp H
 obtain ⟨⟨t506, t507, t508⟩, A20, H⟩ := H
 try dsimp only at H
 have A2 := zk A20
 clear A20
 replace H := Option.bind_eq_some_iff.mp H
 obtain ⟨t509, A30, H⟩ := H
 try dsimp only at H
 have A3 := zk A30
 clear A30
 replace H := Option.bind_eq_some_iff.mp H
 obtain ⟨t510, A40, H⟩ := H
 try dsimp only at H
 have A4 := zk A40
 clear A40
 replace H := Option.bind_eq_some_iff.mp H
 obtain ⟨t511, A50, H⟩ := H
 try dsimp only at H
 have A5 := zk A50
 clear A50
 replace H := Option.bind_eq_some_iff.mp H
 obtain ⟨⟨t512, t513, t514⟩, A60, H⟩ := H
 try dsimp only at H
 have A6 := zk A60
 clear A60
 replace H := Option.bind_eq_some_iff.mp H
 obtain ⟨⟨t515, t516, t517⟩, A70, H⟩ := H
 try dsimp only at H
 have A7 := zk A70
 clear A70
 replace H := Option.bind_eq_some_iff.mp H
 obtain ⟨⟨t518, t519, t520⟩, A80, H⟩ := H
 try dsimp only at H
 have A8 := zk A80
 clear A80
 simp only [Option.some.injEq, Prod.mk.injEq] at H
 obtain ⟨rfl, rfl⟩ := H
 go_enter Try.func85, Try.ntmps85
 go_wp2_with (first | ((with_reducible refine gate_dst (N := 8) rfl ?_); refine box_event ?hg (N := 8) ?hd (cs := #[.slice A0 l0.length c0, .int .i64 0, .int .u64 0]) (t := 102) ?hr ?_; (case hd => rfl); (case hg => rfl); (case hr => first | (go_simp; done) | (go_simp; rfl)); intro gb502 hg w9 hbox hb; have n0_ := zk (below_step (by repeat (first | exact HB.out | apply za | apply zd | apply ze)) hb); have n1_ := zk ((⟨_, _, hbox, (by rw [hg]; exact (below_size (by repeat (first | exact HB.out | apply za | apply zd | apply ze))) : w.heap.size ≤ gb502), HR0.out⟩ : IsS102 w _ gb502 l0 0 0)); have n2_ := zk ((by rw [hg]; exact (below_size (by repeat (first | exact HB.out | apply za | apply zd | apply ze))) : w.heap.size ≤ gb502)); have n3_ := zk ((by rw [hg]; exact (below_size (by repeat (first | exact HB.out | apply za | apply zd | apply ze))) : w.heap.size ≤ gb502)); clear HB; have HB := n0_; have HI502 := n1_; have GW502 := n2_; have GE502 := n3_; clear n0_ n1_ n2_ n3_; clear hb hbox hg) | ((with_reducible refine gate_dst (N := 10) rfl ?_); refine Kd.R_lit (Kd.int .i64) _ 3 ?hg (N := 10) ?hd (xs := ([3, 4, 5, 2, 7, 6, 1, 0, 8] : List Int)) (inner := [.int .i64 3, .int .i64 4, .int .i64 5, .int .i64 2, .int .i64 7, .int .i64 6, .int .i64 1, .int .i64 0, .int .i64 8]) (ok := fun _ => True) (okp := fun _ => True) ?hr ?hp (fun _ hk => hk) trivial (Below.refl _ _) (Nat.le_refl _) (by simp) ?_; (case hd => rfl); (case hg => rfl); (case hr => first | (go_simp; done) | (go_simp; rfl)); (case hp => exact (Reps.one (show Kd.M (Kd.int .i64) _ _ _ 3 [.int .i64 3] from rfl) (Reps.one (show Kd.M (Kd.int .i64) _ _ _ 4 [.int .i64 4] from rfl) (Reps.one (show Kd.M (Kd.int .i64) _ _ _ 5 [.int .i64 5] from rfl) (Reps.one (show Kd.M (Kd.int .i64) _ _ _ 2 [.int .i64 2] from rfl) (Reps.one (show Kd.M (Kd.int .i64) _ _ _ 7 [.int .i64 7] from rfl) (Reps.one (show Kd.M (Kd.int .i64) _ _ _ 6 [.int .i64 6] from rfl) (Reps.one (show Kd.M (Kd.int .i64) _ _ _ 1 [.int .i64 1] from rfl) (Reps.one (show Kd.M (Kd.int .i64) _ _ _ 0 [.int .i64 0] from rfl) (Reps.one (show Kd.M (Kd.int .i64) _ _ _ 8 [.int .i64 8] from rfl) (Reps.none _ _))))))))))); intro v504 w10 ho11 hb hg_ hnew_; clear hg_ hnew_; (first | rw [← Ny503.out] at ho11 | (simp only [Int.reduceToNat] at ho11; rw [← Ny503.out] at ho11)); have n0_ := zk (Kd.R_lower ho11 (below_size (by repeat (first | (with_reducible first | exact HB.out | apply za | apply zd | apply ze | refine below_set ?_ (IsS102.ge HI502.out)) | exact HB.out)))); have n1_ := zk (IsS102.below (by repeat (first | exact HI502.out | apply IsS102.alloc | apply IsS102.drewN | apply IsS102.drew | apply IsS102.set_1 | apply IsS102.set_2)) hb); have n2_ := zk (below_step (by repeat (first | (with_reducible first | exact HB.out | apply za | apply zd | apply ze | refine below_set ?_ (IsS102.ge HI502.out)) | exact HB.out)) hb); clear HI502; clear HB; have HO505 := n0_; have HI502 := n1_; have HB := n2_; clear n0_ n1_ n2_; clear hb ho11; obtain ⟨Ao12, co12, eo12⟩ := Kd.R_slice HO505.out; subst eo12) | ((with_reducible refine gate_callee (f := 195) rfl ?_); refine goesL_ (some 11) rfl rfl Try.func195 (by kernel_rfl) rfl #[.pointer (some ⟨gb502, 0, none⟩), .slice Ao12 y503.length co12] rfl (by (try simp only [List.map_toArray, List.map_cons, List.map_nil]); first | done | rfl | (simp only [List.length_drop, List.length_take]; rfl)) ?_; (with_reducible refine (spec_l1Cur_among.calls gb502 l0 0 0 _ _ y503 t506 t507 t508 w _ ?side1 ?side2 ?side3 ?side4 ?side5 A2.out).mono ?_); (case side1 => repeat (first | exact HI502.out | apply IsS102.alloc | apply IsS102.drewN | apply IsS102.drew | apply IsS102.set_1 | apply IsS102.set_2)); (case side2 => repeat (first | (with_reducible first | exact HB.out | apply za | apply zd | apply ze | refine below_set ?_ (IsS102.ge HI502.out)) | exact HB.out)); (case side3 => repeat (first | exact (Kd.R_reads' HO505.out).2.2 | (with_reducible refine zv ?_ _) | (with_reducible refine zu ?_ _) | (with_reducible refine zw ?_))); (case side4 => exact (Kd.R_reads' HO505.out).2.1); (case side5 => exact far_slice (IsS102.own_ne HI502.out HO505.out (by decide))); rintro e w13 ⟨rfl, hi, hb, hk⟩; refine ⟨_, rfl, ?_⟩; have n0_ := zk (Kd.R_mono (Kd.R_keep (IsS102.apart (show IsS102 w _ gb502 l0 0 0 from by repeat (first | exact HI502.out | apply IsS102.alloc | apply IsS102.drewN | apply IsS102.drew | apply IsS102.set_1 | apply IsS102.set_2)) (by (with_reducible repeat (first | apply zs | apply zr | apply zt)); exact HO505.out) (by decide)) hk (fun _ h => h.2)) (fun _ h => h.1)); have n1_ := zk (hb); have n2_ := zk (hi); clear HO505; clear HB; clear HI502; have HO505 := n0_; have HB := n1_; have HI502 := n2_; clear n0_ n1_ n2_; (try clear hb); (try clear hb2); (try clear hk); (try clear hi)) | ((with_reducible refine gate_callee (f := 196) rfl ?_); refine goesL_ (some 15) rfl rfl Try.func196 (by kernel_rfl) rfl #[.int .i64 t506, .int .i64 7] rfl (by (try simp only [List.map_toArray, List.map_cons, List.map_nil]); first | done | rfl | (simp only [List.length_drop, List.length_take]; rfl)) ?_; (with_reducible refine (spec_l1Least.calls t506 7 t509 _ A3.out).mono ?_); rintro e w' ⟨rfl, ⟨nd, rfl⟩⟩; refine ⟨_, rfl, ?_⟩) | ((with_reducible refine gate_callee (f := 179) rfl ?_); refine goesL_ (some 16) rfl rfl Try.func179 (by kernel_rfl) rfl #[.int .i64 1, .int .i64 t509] rfl (by (try simp only [List.map_toArray, List.map_cons, List.map_nil]); first | done | rfl | (simp only [List.length_drop, List.length_take]; rfl)) ?_; (with_reducible refine (spec_l1Most.calls 1 t509 t510 _ A4.out).mono ?_); rintro e w' ⟨rfl, ⟨nd, rfl⟩⟩; refine ⟨_, rfl, ?_⟩) | ((with_reducible refine gate_callee (f := 212) rfl ?_); refine goesL_ (some 18) rfl rfl Try.func212 (by kernel_rfl) rfl #[.int .i64 0, .int .i64 (wrap64 (2 * t510))] rfl (by (try simp only [List.map_toArray, List.map_cons, List.map_nil]); first | done | rfl | (simp only [List.length_drop, List.length_take]; rfl)) ?_; (with_reducible refine (spec_l4Ends.calls k 0 (wrap64 (2 * t510)) t511 _ A5.out).mono ?_); rintro e w14 ⟨rfl, hb⟩; refine ⟨_, rfl, ?_⟩; have n0_ := zk (Kd.R_below (by (with_reducible repeat (first | apply zs | apply zr | apply zt)); exact HO505.out) hb); have n1_ := zk (IsS102.below (by repeat (first | exact HI502.out | apply IsS102.alloc | apply IsS102.drewN | apply IsS102.drew | apply IsS102.set_1 | apply IsS102.set_2)) hb); have n2_ := zk (below_step (by repeat (first | (with_reducible first | exact HB.out | apply za | apply zd | apply ze | refine below_set ?_ (IsS102.ge HI502.out)) | exact HB.out)) hb); clear HO505; clear HI502; clear HB; have HO505 := n0_; have HI502 := n1_; have HB := n2_; clear n0_ n1_ n2_; (try clear hb); (try clear hb2); (try clear hk); (try clear hi)) | ((with_reducible refine gate_callee (f := 192) rfl ?_); refine goesL_ (some 19) rfl rfl Try.func192 (by kernel_rfl) rfl #[.pointer (some ⟨gb502, 0, none⟩), .int .i64 t511] rfl (by (try simp only [List.map_toArray, List.map_cons, List.map_nil]); first | done | rfl | (simp only [List.length_drop, List.length_take]; rfl)) ?_; (with_reducible refine (spec_l1Cur_pick.calls gb502 l0 t507 t508 t511 t512 t513 t514 w _ ?side1 ?side2 A6.out).mono ?_); (case side1 => repeat (first | exact HI502.out | apply IsS102.alloc | apply IsS102.drewN | apply IsS102.drew | apply IsS102.set_1 | apply IsS102.set_2)); (case side2 => repeat (first | (with_reducible first | exact HB.out | apply za | apply zd | apply ze | refine below_set ?_ (IsS102.ge HI502.out)) | exact HB.out)); rintro e w15 ⟨rfl, hi, hb, hk⟩; refine ⟨_, rfl, ?_⟩; have n0_ := zk (Kd.R_mono (Kd.R_keep (IsS102.apart (show IsS102 w _ gb502 l0 t507 t508 from by repeat (first | exact HI502.out | apply IsS102.alloc | apply IsS102.drewN | apply IsS102.drew | apply IsS102.set_1 | apply IsS102.set_2)) (by (with_reducible repeat (first | apply zs | apply zr | apply zt)); exact HO505.out) (by decide)) hk (fun _ h => h.2)) (fun _ h => h.1)); have n1_ := zk (hb); have n2_ := zk (hi); clear HO505; clear HB; clear HI502; have HO505 := n0_; have HB := n1_; have HI502 := n2_; clear n0_ n1_ n2_; (try clear hb); (try clear hb2); (try clear hk); (try clear hi)) | ((with_reducible refine gate_callee (f := 192) rfl ?_); refine goesL_ (some 21) rfl rfl Try.func192 (by kernel_rfl) rfl #[.pointer (some ⟨gb502, 0, none⟩), .int .i64 24] rfl (by (try simp only [List.map_toArray, List.map_cons, List.map_nil]); first | done | rfl | (simp only [List.length_drop, List.length_take]; rfl)) ?_; (with_reducible refine (spec_l1Cur_pick.calls gb502 l0 t513 t514 24 t515 t516 t517 w _ ?side1 ?side2 A7.out).mono ?_); (case side1 => repeat (first | exact HI502.out | apply IsS102.alloc | apply IsS102.drewN | apply IsS102.drew | apply IsS102.set_1 | apply IsS102.set_2)); (case side2 => repeat (first | (with_reducible first | exact HB.out | apply za | apply zd | apply ze | refine below_set ?_ (IsS102.ge HI502.out)) | exact HB.out)); rintro e w16 ⟨rfl, hi, hb, hk⟩; refine ⟨_, rfl, ?_⟩; have n0_ := zk (Kd.R_mono (Kd.R_keep (IsS102.apart (show IsS102 w _ gb502 l0 t513 t514 from by repeat (first | exact HI502.out | apply IsS102.alloc | apply IsS102.drewN | apply IsS102.drew | apply IsS102.set_1 | apply IsS102.set_2)) (by (with_reducible repeat (first | apply zs | apply zr | apply zt)); exact HO505.out) (by decide)) hk (fun _ h => h.2)) (fun _ h => h.1)); have n1_ := zk (hb); have n2_ := zk (hi); clear HO505; clear HB; clear HI502; have HO505 := n0_; have HB := n1_; have HI502 := n2_; clear n0_ n1_ n2_; (try clear hb); (try clear hb2); (try clear hk); (try clear hi)) | ((with_reducible refine gate_callee (f := 192) rfl ?_); refine goesL_ (some 25) rfl rfl Try.func192 (by kernel_rfl) rfl #[.pointer (some ⟨gb502, 0, none⟩), .int .i64 24] rfl (by (try simp only [List.map_toArray, List.map_cons, List.map_nil]); first | done | rfl | (simp only [List.length_drop, List.length_take]; rfl)) ?_; (with_reducible refine (spec_l1Cur_pick.calls gb502 l0 t516 t517 24 t518 t519 t520 w _ ?side1 ?side2 A8.out).mono ?_); (case side1 => repeat (first | exact HI502.out | apply IsS102.alloc | apply IsS102.drewN | apply IsS102.drew | apply IsS102.set_1 | apply IsS102.set_2)); (case side2 => repeat (first | (with_reducible first | exact HB.out | apply za | apply zd | apply ze | refine below_set ?_ (IsS102.ge HI502.out)) | exact HB.out)); rintro e w17 ⟨rfl, hi, hb, hk⟩; refine ⟨_, rfl, ?_⟩; have n0_ := zk (Kd.R_mono (Kd.R_keep (IsS102.apart (show IsS102 w _ gb502 l0 t516 t517 from by repeat (first | exact HI502.out | apply IsS102.alloc | apply IsS102.drewN | apply IsS102.drew | apply IsS102.set_1 | apply IsS102.set_2)) (by (with_reducible repeat (first | apply zs | apply zr | apply zt)); exact HO505.out) (by decide)) hk (fun _ h => h.2)) (fun _ h => h.1)); have n1_ := zk (hb); have n2_ := zk (hi); clear HO505; clear HB; clear HI502; have HO505 := n0_; have HB := n1_; have HI502 := n2_; clear n0_ n1_ n2_; (try clear hb); (try clear hb2); (try clear hk); (try clear hi)))
 go_ret2
 exact ⟨by first | rfl | (simp [errW_none, errW_some] <;> rfl) | (simp [*, errW_none, errW_some] <;> rfl), by repeat (first | (with_reducible first | exact HB.out | apply za | apply zd | apply ze | refine below_set ?_ (IsS102.ge HI502.out)) | exact HB.out)⟩

end Go.Proofs.Ytlkddcabjcejdaa.MFnOneStack
