/- Functions that FnContained comes to, a walk for each: by wip/tools/mk.py and post.py. No condition. -/
import Derived.Test.YtlkddcabjcejdaaMFnContainedx0
import Derived.Test.YtlkddcabjcejdaaMFnContainedx1
namespace Go.Proofs.Ytlkddcabjcejdaa.MFnContained
open Go.RowKit Go.Proofs.YtlkddcabjcejdaaW.PrintWords Go.Proofs.YtlkddcabjcejdaaW.PrintLast Go.Proofs.YtlkddcabjcejdaaW.PrintMore
attribute [local go_sem] max2_int min2_int max_two min_two max_three min_three max_four min_four
set_option linter.unusedVariables false
set_option linter.unusedSimpArgs false

/-! ### spec_l2PutOrder: function 151 -/
def spec_l2PutOrder.l0 : Nat → List (List Int) → List Int → Int → Option ((List (List Int)))
 | 0, _, _, _ => none
 | k + 1, x0, x1, x5 => if x5 < (x0.length : Int) then (if 0 ≤ x5 then ((spec_l2Before.f k (rd_L1 x0 x5) x1).bind fun t118 => (if t118 = true then (spec_l2PutOrder.l0 k x0 x1 (wrap64 (x5 + 1))) else ((spec_l1Same.f k (rd_L1 x0 x5) x1).bind fun t120 => (if t120 = true then (some x0) else ((some (([] : List (List Int)) : List (List Int))).bind fun y121 => (if x5 ≤ (x0.length : Int) then ((some (x0.take (x5 : Int).toNat : List (List Int))).bind fun y124 => (if y121.length + y124.length < 5864062014805 then ((some (y121 ++ y124 : List (List Int))).bind fun y129 => ((some (([x1] : List (List Int)) : List (List Int))).bind fun y132 => (if y129.length + y132.length < 5864062014805 then ((some (y129 ++ y132 : List (List Int))).bind fun y135 => ((some (x0.drop (x5 : Int).toNat : List (List Int))).bind fun y138 => (if y135.length + y138.length < 5864062014805 then (some (y135 ++ y138)) else (none)))) else (none)))) else (none))) else (none))))))) else (none)) else ((some (([] : List (List Int)) : List (List Int))).bind fun y146 => (if 0 ≤ x5 then (if x5 ≤ (x0.length : Int) then ((some (x0.take (x5 : Int).toNat : List (List Int))).bind fun y149 => (if y146.length + y149.length < 5864062014805 then ((some (y146 ++ y149 : List (List Int))).bind fun y154 => ((some (([x1] : List (List Int)) : List (List Int))).bind fun y157 => (if y154.length + y157.length < 5864062014805 then ((some (y154 ++ y157 : List (List Int))).bind fun y160 => ((some (x0.drop (x5 : Int).toNat : List (List Int))).bind fun y163 => (if y160.length + y163.length < 5864062014805 then (some (y160 ++ y163)) else (none)))) else (none)))) else (none))) else (none)) else (none)))
def spec_l2PutOrder.f (k : Nat) (l0 : List (List Int)) (l1 : List Int) : Option ((List (List Int))) := spec_l2PutOrder.l0 k l0 l1 0
def spec_l2PutOrder.T6 : Bool × List (List Nat × List Nat) := (true, [([], []), ([], []), ([], []), ([1, 2], [1, 2]), ([0, 3], [0, 3]), ([], []), ([5], [5]), ([4, 6, 4], [4, 6]), ([], []), ([], []), ([8, 9], [8, 9]), ([7, 10, 7], [7, 10]), ([11, 11, 0, 1, 2, 3, 4, 5, 6, 7, 8, 9, 10, 11], [11])])
def spec_l2PutOrder.B6 : List Nat := [0, 0, 0, 6, 15, 0, 32, 127, 0, 0, 768, 2047, 4095]
theorem spec_l2PutOrder.tab6 : rtab .any (opsOf Try.f151 6) = spec_l2PutOrder.T6 := by kernel_rfl
theorem spec_l2PutOrder.bits6 : waitsOk spec_l2PutOrder.T6.2 spec_l2PutOrder.B6 = true := by kernel_rfl
set_option maxHeartbeats 8000000 in
set_option maxRecDepth 100000 in
theorem spec_l2PutOrder.calls (k : Nat) (P0_ : Nat → Prop) (A0 : Option Addr) (c0 : Nat) (l0 : List (List Int)) (P1_ : Nat → Prop) (A1 : Option Addr) (c1 : Nat) (l1 : List Int) (r : List (List Int)) (w : World) (hs0 : Kd.V (Kd.slice 3 (Kd.int .i64)) 22 w w.heap.size (fun k_ => P0_ k_) (.slice A0 l0.length c0) l0) (hs1 : Kd.V (Kd.int .i64) 3 w w.heap.size (fun k_ => P1_ k_) (.slice A1 l1.length c1) l1) (h : spec_l2PutOrder.f k l0 l1 = some r) :
 Calls Try.prog 151 #[.slice A0 l0.length c0, .slice A1 l1.length c1] w fun e w' => ∃ v0_ : Value, e = .returned (v0_) ∧ Kd.V (Kd.slice 3 (Kd.int .i64)) 22 w' w.heap.size (fun k_ => ((P0_ k_ ∨ P1_ k_) ∨ w.heap.size ≤ k_)) v0_ r ∧ Below w.heap.size w w' := by
 have HO0 := zk (show Kd.V (Kd.slice 3 (Kd.int .i64)) 22 w w.heap.size (fun k_ => ((P0_ k_ ∨ P1_ k_) ∨ w.heap.size ≤ k_)) (.slice A0 l0.length c0) l0 from Kd.V_mono hs0 (fun k_ hk => .inl (.inl hk)))
 have HO1 := zk (show Kd.V (Kd.int .i64) 3 w w.heap.size (fun k_ => ((P0_ k_ ∨ P1_ k_) ∨ w.heap.size ≤ k_)) (.slice A1 l1.length c1) l1 from Kd.V_mono hs1 (fun k_ hk => .inl (.inr hk)))
 have HB := zk (Below.refl w.heap.size w)
 have H : (spec_l2PutOrder.l0 k l0 l1 0) = some r := h
 clear h
 have H' := zk H
 clear H
 go_enter Try.func151, Try.ntmps151
 go_wp2
 go_loopg [5] k (fun kq v5 w' => ∃ (x5_1 : Int), v5 = .int .i64 x5_1 ∧ Aside0 (spec_l2PutOrder.l0 kq l0 l1 x5_1 = some r) ∧ Aside0 (kq ≤ k) ∧ Aside0 (Kd.V (Kd.slice 3 (Kd.int .i64)) 22 w' w.heap.size (fun k_ => ((P0_ k_ ∨ P1_ k_) ∨ w.heap.size ≤ k_)) (.slice A0 l0.length c0) l0) ∧ Aside0 (Kd.V (Kd.int .i64) 3 w' w.heap.size (fun k_ => ((P0_ k_ ∨ P1_ k_) ∨ w.heap.size ≤ k_)) (.slice A1 l1.length c1) l1) ∧ Aside0 (Below w.heap.size w w'))
 case atStart => exact ⟨(0), (by first | rfl | (simp; done) | (simp [*]; done)), H', ⟨Nat.le_refl _⟩, ⟨by (with_reducible repeat (first | apply Kd.V_alloc | apply Kd.V_drewN | apply Kd.V_drew)); exact HO0.out⟩, ⟨by (with_reducible repeat (first | apply Kd.V_alloc | apply Kd.V_drewN | apply Kd.V_drew)); exact HO1.out⟩, ⟨by repeat (first | exact HB.out | apply za | apply zd | apply ze)⟩⟩
 case round =>
  clear H'
  try clear c1
  try clear p2
  obtain ⟨x5_1, rfl, HA, HK1, HO_0, HO_1, HB⟩ := hrel
  cases gk with
  | zero => exact absurd HA.out (by simp [spec_l2PutOrder.l0])
  | succ k1 =>
   have H := HA.out
   clear HA
   simp only [spec_l2PutOrder.l0] at H
   by_cases c3 : x5_1 < (l0.length : Int)
   rotate_left
   · rw [if_neg c3] at H
     have c3b0 := decide_eq_false c3
     clear c3
     obtain ⟨y146, hy146⟩ : ∃ y_ : List (List Int), y_ = (([] : List (List Int))) := ⟨_, rfl⟩
     replace H : (if 0 ≤ x5_1 then (if x5_1 ≤ (l0.length : Int) then ((some (l0.take (x5_1 : Int).toNat : List (List Int))).bind fun y149 => (if y146.length + y149.length < 5864062014805 then ((some (y146 ++ y149 : List (List Int))).bind fun y154 => ((some (([l1] : List (List Int)) : List (List Int))).bind fun y157 => (if y154.length + y157.length < 5864062014805 then ((some (y154 ++ y157 : List (List Int))).bind fun y160 => ((some (l0.drop (x5_1 : Int).toNat : List (List Int))).bind fun y163 => (if y160.length + y163.length < 5864062014805 then (some (y160 ++ y163)) else (none)))) else (none)))) else (none))) else (none)) else (none)) = some r := by first | (rw [hy146]; with_reducible exact H) | (have H2_ := (Option.bind_some _ _).symm.trans H; rw [hy146]; with_reducible exact H2_) | (have H2_ := (Option.bind_some _ _).symm.trans H; with_reducible exact H2_) | with_reducible exact H | (rw [hy146]; exact H) | exact H
     have Ny146 := zk hy146
     clear hy146
     by_cases c28 : 0 ≤ x5_1
     rotate_left
     · rw [if_neg c28] at H
       exact absurd H (by simp)
     rw [if_pos c28] at H
     have c28b0 := eq_true c28
     have c28b1 := decide_eq_true c28
     clear c28
     by_cases c29 : x5_1 ≤ (l0.length : Int)
     rotate_left
     · rw [if_neg c29] at H
       exact absurd H (by simp)
     rw [if_pos c29] at H
     have c29b0 := eq_true c29
     have c29b1 := decide_eq_true c29
     clear c29
     obtain ⟨y149, hy149⟩ : ∃ y_ : List (List Int), y_ = (l0.take (x5_1 : Int).toNat) := ⟨_, rfl⟩
     rw [← hy149] at H
     try rw [zO y149] at H
     try dsimp only at H
     have Ny149 := zk hy149
     clear hy149
     by_cases c30 : y146.length + y149.length < 5864062014805
     rotate_left
     · rw [if_neg c30] at H
       exact absurd H (by simp)
     rw [if_pos c30] at H
     have LMc30 := zk c30
     clear c30
     obtain ⟨y154, hy154⟩ : ∃ y_ : List (List Int), y_ = (y146 ++ y149) := ⟨_, rfl⟩
     rw [← hy154] at H
     try rw [zO y154] at H
     try dsimp only at H
     have Ny154 := zk hy154
     clear hy154
     obtain ⟨y157, hy157⟩ : ∃ y_ : List (List Int), y_ = (([l1] : List (List Int))) := ⟨_, rfl⟩
     rw [← hy157] at H
     try rw [zO y157] at H
     try dsimp only at H
     have Ny157 := zk hy157
     clear hy157
     by_cases c31 : y154.length + y157.length < 5864062014805
     rotate_left
     · rw [if_neg c31] at H
       exact absurd H (by simp)
     rw [if_pos c31] at H
     have LMc31 := zk c31
     clear c31
     obtain ⟨y160, hy160⟩ : ∃ y_ : List (List Int), y_ = (y154 ++ y157) := ⟨_, rfl⟩
     rw [← hy160] at H
     try rw [zO y160] at H
     try dsimp only at H
     have Ny160 := zk hy160
     clear hy160
     have c32b0 := eq_true (zo (by assumption) : 0 ≤ x5_1)
     have c33b0 := eq_true (zo (by assumption) : x5_1 ≤ (l0.length : Int))
     obtain ⟨y163, hy163⟩ : ∃ y_ : List (List Int), y_ = (l0.drop (x5_1 : Int).toNat) := ⟨_, rfl⟩
     replace H : (if y160.length + y163.length < 5864062014805 then (some (y160 ++ y163)) else (none)) = some r := by first | (rw [hy163]; with_reducible exact H) | (have H2_ := (Option.bind_some _ _).symm.trans H; rw [hy163]; with_reducible exact H2_) | (have H2_ := (Option.bind_some _ _).symm.trans H; with_reducible exact H2_) | with_reducible exact H | (rw [hy163]; exact H) | exact H
     have Ny163 := zk hy163
     clear hy163
     by_cases c34 : y160.length + y163.length < 5864062014805
     rotate_left
     · rw [if_neg c34] at H
       exact absurd H (by simp)
     rw [if_pos c34] at H
     have LMc34 := zk c34
     clear c34
     obtain ⟨y168, hy168⟩ : ∃ y_ : List (List Int), y_ = (y160 ++ y163) := ⟨_, rfl⟩
     replace H : (some y168) = some r := by first | (rw [hy168]; with_reducible exact H) | (have H2_ := (Option.bind_some _ _).symm.trans H; rw [hy168]; with_reducible exact H2_) | (have H2_ := (Option.bind_some _ _).symm.trans H; with_reducible exact H2_) | with_reducible exact H | (rw [hy168]; exact H) | exact H
     have Ny168 := zk hy168
     clear hy168
     obtain rfl := Option.some.inj H
     try go_wp2
     have n0_ := zk (Kd.V_drew HO_0.out)
     have n1_ := zk (Kd.V_drew HO_1.out)
     have n2_ := zk (ze HB.out)
     clear HO_0
     clear HO_1
     clear HB
     have HO_0 := n0_
     have HO_1 := n1_
     have HB := n2_
     clear n0_ n1_ n2_
     have q36 : (x5_1 : Int) ≤ ((l0.length : Int) : Int) := zo (by assumption)
     obtain ⟨i036, hi036, _, hsz36, _⟩ := info_parts info22
     have hroom36 : l0.length ≤ c0 := (Kd.V_reads' HO_0.out).2.1
     have hC36 : Kd.F (Kd.slice 3 (Kd.int .i64)) _ _ A0 l0.length l0 := (Kd.V_at (base := w.heap.size) HO_0.out).2.2
     have hcut36 := cut_to (P := Try.prog) 28 22 .i64 Try.underlying28 hi036 A0 l0.length c0 x5_1 (zo (by assumption)) q36 hroom36
     have hr36 := Kd.F_take (m := (x5_1 : Int).toNat) hC36 (by omega)
     have hy36 : y149.length = (x5_1 : Int).toNat := (by rw [Ny149.out, List.length_take]; omega)
     rw [← Ny149.out] at hr36
     rw [← hy36] at hcut36
     have HO153 := zk (show Kd.V (Kd.slice 3 (Kd.int .i64)) 22 _ w.heap.size _ (.slice A0 y149.length c0) y149 from Kd.V_mk (by omega) hr36)
     have HC153 := zk (show y149.length ≤ c0 from by omega)
     clear hr36 hC36 hroom36 hi036 hsz36
     have KY36 := zk hy36
     clear hy36
     replace q36 := eq_true q36
     have q37 : (x5_1 : Int) ≤ ((l0.length : Int) : Int) := zo (by assumption)
     obtain ⟨i037, hi037, _, hsz37, _⟩ := info_parts info22
     have hroom37 : l0.length ≤ c0 := (Kd.V_reads' HO_0.out).2.1
     have hC37 : Kd.F (Kd.slice 3 (Kd.int .i64)) _ _ A0 l0.length l0 := (Kd.V_at (base := w.heap.size) HO_0.out).2.2
     have q037 : (0 : Int) ≤ (x5_1 : Int) := zo (by assumption)
     have hcut37 := cut_from (P := Try.prog) 28 22 .i64 Try.underlying28 hi037 1 hsz37 A0 l0.length c0 x5_1 q037 q37
     have hr37 := Kd.F_cut (m := (x5_1 : Int).toNat) (c := c0) hC37 (by omega) hroom37
     obtain ⟨A37, hA37⟩ : ∃ A1, A1 = (if c0 = (x5_1 : Int).toNat then A0 else (A0 : Option Addr).map (·.add ((x5_1 : Int).toNat * 1))) := ⟨_, rfl⟩
     obtain ⟨c37, hc37⟩ : ∃ c1, c1 = c0 - (x5_1 : Int).toNat := ⟨_, rfl⟩
     have hy37 : y163.length = l0.length - (x5_1 : Int).toNat := (by rw [Ny163.out, List.length_drop] <;> omega)
     rw [show (l0).drop (x5_1 : Int).toNat = y163 from Ny163.out.symm] at hr37
     replace hr37 : Kd.F (Kd.slice 3 (Kd.int .i64)) _ _ A37 y163.length y163 := (by rw [hA37]; exact hr37)
     rw [← hy37, ← hA37, ← hc37] at hcut37
     have HO167 := zk (show Kd.V (Kd.slice 3 (Kd.int .i64)) 22 _ w.heap.size _ (.slice A37 y163.length c37) y163 from Kd.V_mk (by rw [hy37, hc37]; exact Nat.sub_le_sub_right hroom37 _) hr37)
     have HC167 := zk (show y163.length ≤ c37 from by rw [hy37, hc37]; exact Nat.sub_le_sub_right hroom37 _)
     clear hr37 hC37 hroom37 hi037 hsz37 hc37
     have KY37 := zk hy37
     have KA37 := zk hA37
     clear hy37 hA37
     replace q37 := eq_true q37
     refine start_ (n := 13) (S := fun w' => True) (ds := []) #[false, false, false, false, false, false, false, false, false, false, false, false, false] (by kernel_rfl) rfl rfl trivial (fun hHeld => ?_); refine with_tabW spec_l2PutOrder.tab6 spec_l2PutOrder.bits6 (fun HT_ HW_ => ?_)
     generalize wr.drew = w35 at HO_0 HO_1 HB HO153 HO167 hHeld ⊢
     refine pure_ (i := 1) (N := some 34) (v := ?_) (a' := ?_) #[false, true, false, false, false, false, false, false, false, false, false, false, false] rfl rfl (any_of HT_.out (by kernel_rfl)) (fun _ _ _ h => h) (Or.inl ⟨by rfl, ?_⟩) ?_ ?_
     rotate_left
     · intro w'
       go_simp
       with_reducible rfl
     rotate_left
     · exact zQ
     refine pure_ (i := 2) (N := some 35) (v := ?_) (a' := ?_) #[false, true, true, false, false, false, false, false, false, false, false, false, false] rfl rfl (any_of HT_.out (by kernel_rfl)) (fun _ _ _ h => h) (Or.inl ⟨by rfl, ?_⟩) ?_ ?_
     rotate_left
     · intro w'
       go_simp
       with_reducible rfl
     rotate_left
     · exact zQ
     refine pure_ (i := 3) (N := some 36) (v := ?_) (a' := ?_) #[false, true, true, true, false, false, false, false, false, false, false, false, false] rfl rfl (any_of HT_.out (by kernel_rfl)) (fun _ _ _ h => h) (Or.inl ⟨by rfl, ?_⟩) ?_ ?_
     rotate_left
     · intro w'
       go_simp
       with_reducible rfl
     rotate_left
     · exact zQ
     refine pure_ (i := 5) (N := some 38) (v := ?_) (a' := ?_) #[false, true, true, true, false, true, false, false, false, false, false, false, false] rfl rfl (any_of HT_.out (by kernel_rfl)) (fun _ _ _ h => h) (Or.inl ⟨by rfl, ?_⟩) ?_ ?_
     rotate_left
     · intro w'
       go_simp
       with_reducible rfl
     rotate_left
     · exact zQ
     refine pure_ (i := 8) (N := some 41) (v := ?_) (a' := ?_) #[false, true, true, true, false, true, false, false, true, false, false, false, false] rfl rfl (any_of HT_.out (by kernel_rfl)) (fun _ _ _ h => h) (Or.inl ⟨by rfl, ?_⟩) ?_ ?_
     rotate_left
     · intro w'
       go_simp
       with_reducible rfl
     rotate_left
     · exact zQ
     refine pure_ (i := 9) (N := some 42) (v := ?_) (a' := ?_) #[false, true, true, true, false, true, false, false, true, true, false, false, false] rfl rfl (any_of HT_.out (by kernel_rfl)) (fun _ _ _ h => h) (Or.inl ⟨by rfl, ?_⟩) ?_ ?_
     rotate_left
     · intro w'
       go_simp
       with_reducible rfl
     rotate_left
     · exact zQ
     refine pure_ (i := 10) (N := some 43) (v := ?_) (a' := ?_) #[false, true, true, true, false, true, false, false, true, true, true, false, false] rfl rfl (any_of HT_.out (by kernel_rfl)) (fun _ _ _ h => h) (Or.inl ⟨by rfl, ?_⟩) ?_ ?_
     rotate_left
     · intro w'
       go_simp
       with_reducible rfl
     rotate_left
     · exact zQ
     refine join_ (σ := Value × Value × Value) 3 #[true, true, true, true, true, true, true, false, true, true, true, false, false] (fun s_ => [(33, s_.1), (37, s_.2.1), (39, s_.2.2)]) (fun s_ w' => (Kd.V (Kd.slice 3 (Kd.int .i64)) 22 w' w.heap.size (fun k_ => ((P0_ k_ ∨ P1_ k_) ∨ w.heap.size ≤ k_) ∧ some k_ ≠ (s_.2.1 : Value).ownBlock ∧ some k_ ≠ (s_.2.2 : Value).ownBlock) (.slice A0 y149.length c0) y149) ∧ (Kd.N (Kd.slice 3 (Kd.int .i64)) 22 w' w.heap.size (fun k_ => ((P0_ k_ ∨ P1_ k_) ∨ w.heap.size ≤ k_) ∧ some k_ ≠ (s_.2.2 : Value).ownBlock) s_.2.1 y154) ∧ (Kd.N (Kd.slice 3 (Kd.int .i64)) 22 w' w.heap.size (fun k_ => ((P0_ k_ ∨ P1_ k_) ∨ w.heap.size ≤ k_) ∧ some k_ ≠ (s_.2.1 : Value).ownBlock) s_.2.2 y157) ∧ (Kd.V (Kd.slice 3 (Kd.int .i64)) 22 w' w.heap.size (fun k_ => ((P0_ k_ ∨ P1_ k_) ∨ w.heap.size ≤ k_) ∧ some k_ ≠ (s_.2.1 : Value).ownBlock ∧ some k_ ≠ (s_.2.2 : Value).ownBlock) (.slice A37 y163.length c37) y163) ∧ (Kd.V (Kd.slice 3 (Kd.int .i64)) 22 w' w.heap.size (fun k_ => ((P0_ k_ ∨ P1_ k_) ∨ w.heap.size ≤ k_) ∧ some k_ ≠ (s_.2.1 : Value).ownBlock ∧ some k_ ≠ (s_.2.2 : Value).ownBlock) (.slice A0 l0.length c0) l0) ∧ (Kd.V (Kd.int .i64) 3 w' w.heap.size (fun k_ => ((P0_ k_ ∨ P1_ k_) ∨ w.heap.size ≤ k_) ∧ some k_ ≠ (s_.2.1 : Value).ownBlock ∧ some k_ ≠ (s_.2.2 : Value).ownBlock) (.slice A1 l1.length c1) l1) ∧ (Below w.heap.size w w')) ?_ ?_
     rotate_left
     · intro hCont
       refine two_ (i := 0) (j := 6) (Ni := some 33) (Nj := some 39) #[true, true, true, true, false, true, false, false, true, true, true, false, false] #[false, true, true, true, false, true, true, false, true, true, true, false, false] rfl rfl rfl rfl (two_of HT_.out (by kernel_rfl)) (by decide) (by decide) (fun K hK => ?_) (fun K hK => ?_)
       · skip
         refine Kd.N_lit_step (Kd.slice 3 (Kd.int .i64)) _ 22 ?hg (N' := 33) ?hd (xs := ([] : List (List Int))) (inner := []) (ok := (fun k_ => ((P0_ k_ ∨ P1_ k_) ∨ w.heap.size ≤ k_))) (okp := (fun k_ => ((P0_ k_ ∨ P1_ k_) ∨ w.heap.size ≤ k_))) ?hr ?hp (fun _ hk => hk) ((show ∀ k_, w35.heap.size ≤ k_ → (fun k_ => ((P0_ k_ ∨ P1_ k_) ∨ w.heap.size ≤ k_)) k_ from fun k_ hk => (.inr (Nat.le_trans (below_size (zB HB)) hk))) _ (Nat.le_refl _)) (Below.refl _ _) (Nat.le_refl _) (by simp) ?_; (case hd => rfl); (case hg => rfl); (case hr => first | (go_simp; done) | (go_simp; rfl)); (case hp => exact (Reps.none _ _))
         intro v147 w38 ho39 hb hg_ hnew_
         clear hg_ hnew_
         (first | rw [← Ny146.out] at ho39 | (simp only [Int.reduceToNat] at ho39; rw [← Ny146.out] at ho39))
         have n0_ := zk (Kd.V_elder' (zV HO_0) (by first | exact Kd.N_base ho39 | exact Kd.S_base ho39 | exact Kd.R_base ho39) hb)
         have n1_ := zk (Kd.V_elder' (zV HO_1) (by first | exact Kd.N_base ho39 | exact Kd.S_base ho39 | exact Kd.R_base ho39) hb)
         have n2_ := zk (Kd.V_elder' (zV HO153) (by first | exact Kd.N_base ho39 | exact Kd.S_base ho39 | exact Kd.R_base ho39) hb)
         have n3_ := zk (Kd.V_elder' (zV HO167) (by first | exact Kd.N_base ho39 | exact Kd.S_base ho39 | exact Kd.R_base ho39) hb)
         have n4_ := zk (Kd.N_lower ho39 (below_size (zB HB)))
         have n5_ := zF HB hb
         clear HO_0
         clear HO_1
         clear HO153
         clear HO167
         clear HB
         have HO_0 := n0_
         have HO_1 := n1_
         have HO153 := n2_
         have HO167 := n3_
         have HO148 := n4_
         have HB := n5_
         clear n0_ n1_ n2_ n3_ n4_ n5_
         clear hb ho39
         refine hK.out _ _ trivial (fun hHeld => ?_)
         clear hK K
         refine zM 33 ?_
         refine two_ (i := 4) (j := 6) (Ni := some 37) (Nj := some 39) #[true, true, true, true, true, true, false, false, true, true, true, false, false] #[true, true, true, true, false, true, true, false, true, true, true, false, false] rfl rfl rfl rfl (two_of HT_.out (by kernel_rfl)) (by decide) (by decide) (fun K hK => ?_) (fun K hK => ?_)
         · skip
           refine Kd.N_append_rows_step (Kd.slice 3 (Kd.int .i64)) (w0 := w) w.heap.size (by rfl) (.tmp 33) (.tmp 36) 28 22 (.slice none 0 0) 24 rfl Try.underlying28 info22 rfl (by decide) (by omega) v147 y146 y149 _ _ _ (fun k_ => ((P0_ k_ ∨ P1_ k_) ∨ w.heap.size ≤ k_)) (fun k_ => ((fun k_ => ((P0_ k_ ∨ P1_ k_) ∨ w.heap.size ≤ k_))) k_ ∧ some k_ ≠ (v147 : Value).ownBlock) rfl rfl ?aO ?aR (fun _ hk => hk) ?aF ?aB ?aS ?aL ?_
           (case aR => exact (by skip; exact Kd.V_F (by (with_reducible repeat (first | apply Kd.V_alloc | apply Kd.V_drewN | apply Kd.V_drew)); exact Kd.V_mono (ok' := (fun k_ => ((fun k_ => ((P0_ k_ ∨ P1_ k_) ∨ w.heap.size ≤ k_))) k_ ∧ some k_ ≠ (v147 : Value).ownBlock)) (HO153.out) (fun k_ hk => ⟨hk.1, hk.2⟩))))
           (case aB => exact (zB HB))
           (case aF => exact (fun k_ hk => (.inr (Nat.le_trans (below_size (zB HB)) hk))))
           (case aO => exact (zN HO148))
           (case aS => exact (below_size (zB HB)))
           (case aL => have := LMc30.out; omega)
           intro v155 w40 ho hb hg hat
           rw [← Ny154.out] at ho
           have n0_ := zk (Kd.V_afterv (ok := (fun k_ => ((P0_ k_ ∨ P1_ k_) ∨ w.heap.size ≤ k_))) (zV HO_0) hg hat)
           have n1_ := zk (Kd.V_afterv (ok := (fun k_ => ((P0_ k_ ∨ P1_ k_) ∨ w.heap.size ≤ k_))) (zV HO_1) hg hat)
           have n2_ := zk (Kd.V_afterv (ok := (fun k_ => ((P0_ k_ ∨ P1_ k_) ∨ w.heap.size ≤ k_))) (zV HO153) hg hat)
           have n3_ := zk (Kd.V_afterv (ok := (fun k_ => ((P0_ k_ ∨ P1_ k_) ∨ w.heap.size ≤ k_))) (zV HO167) hg hat)
           have n4_ := zk (hb)
           have n5_ := zk (ho)
           clear HO_0
           clear HO_1
           clear HO153
           clear HO167
           clear HB
           clear HO148
           have HO_0 := n0_
           have HO_1 := n1_
           have HO153 := n2_
           have HO167 := n3_
           have HB := n4_
           have HO156 := n5_
           clear n0_ n1_ n2_ n3_ n4_ n5_
           clear ho hb hg hat
           refine hK.out _ _ trivial (fun hHeld => ?_)
           clear hK K
           refine zM 37 ?_
           refine one_ (i := 6) (N := some 39) #[true, true, true, true, true, true, true, false, true, true, true, false, false] rfl rfl (one_of HT_.out (by kernel_rfl)) (by decide) (fun K hK => ?_)
           refine Kd.N_lit_step (Kd.slice 3 (Kd.int .i64)) _ 22 ?hg (N' := 39) ?hd (xs := ([l1] : List (List Int))) (inner := [.slice A1 l1.length c1]) (ok := (fun k_ => ((P0_ k_ ∨ P1_ k_) ∨ w.heap.size ≤ k_) ∧ some k_ ≠ (v155 : Value).ownBlock)) (okp := (fun k_ => ((P0_ k_ ∨ P1_ k_) ∨ w.heap.size ≤ k_) ∧ some k_ ≠ (v155 : Value).ownBlock)) ?hr ?hp (fun _ hk => hk) ((show ∀ k_, w40.heap.size ≤ k_ → (fun k_ => ((P0_ k_ ∨ P1_ k_) ∨ w.heap.size ≤ k_) ∧ some k_ ≠ (v155 : Value).ownBlock) k_ from fun k_ hk => ⟨(.inr (Nat.le_trans (below_size (zB HB)) hk)), Kd.fresh' (Kd.N_lt (zN HO156)) k_ hk⟩) _ (Nat.le_refl _)) (Below.refl _ _) (Nat.le_refl _) (by simp) ?_; (case hd => rfl); (case hg => rfl); (case hr => first | (go_simp; done) | (go_simp; rfl)); (case hp => exact (Reps.one (show Kd.FK (Kd.slice 3 (Kd.int .i64)) _ _ l1 [.slice A1 l1.length c1] from (Kd.FK_slice_mk (Kd.V_reads' (Kd.V_mono (ok' := (fun k_ => ((P0_ k_ ∨ P1_ k_) ∨ w.heap.size ≤ k_) ∧ some k_ ≠ (v155 : Value).ownBlock)) (HO_1.out) (fun k_ hk => ⟨hk.1, hk.2⟩))).2.1 (Kd.V_F (by (with_reducible repeat (first | apply Kd.V_alloc | apply Kd.V_drewN | apply Kd.V_drew)); exact Kd.V_mono (ok' := (fun k_ => ((P0_ k_ ∨ P1_ k_) ∨ w.heap.size ≤ k_) ∧ some k_ ≠ (v155 : Value).ownBlock)) (HO_1.out) (fun k_ hk => ⟨hk.1, hk.2⟩))))) (Reps.none _ _)))
           intro v158 w41 ho42 hb hg_ hnew_
           clear hg_ hnew_
           (first | rw [← Ny157.out] at ho42 | (simp only [Int.reduceToNat] at ho42; rw [← Ny157.out] at ho42))
           have n0_ := zk (Kd.V_elder' (zV HO_0) (by first | exact Kd.N_base ho42 | exact Kd.S_base ho42 | exact Kd.R_base ho42) hb)
           have n1_ := zk (Kd.V_elder' (zV HO_1) (by first | exact Kd.N_base ho42 | exact Kd.S_base ho42 | exact Kd.R_base ho42) hb)
           have n2_ := zk (Kd.V_elder' (zV HO153) (by first | exact Kd.N_base ho42 | exact Kd.S_base ho42 | exact Kd.R_base ho42) hb)
           have n3_ := zk (Kd.V_elder' (zV HO167) (by first | exact Kd.N_base ho42 | exact Kd.S_base ho42 | exact Kd.R_base ho42) hb)
           have n4_ := zk (Kd.N_elder' (zN HO156) (by first | exact Kd.N_base ho42 | exact Kd.S_base ho42 | exact Kd.R_base ho42) hb)
           have n5_ := zk (Kd.N_lower ho42 (below_size (zB HB)))
           have n6_ := zF HB hb
           clear HO_0
           clear HO_1
           clear HO153
           clear HO167
           clear HO156
           clear HB
           have HO_0 := n0_
           have HO_1 := n1_
           have HO153 := n2_
           have HO167 := n3_
           have HO156 := n4_
           have HO159 := n5_
           have HB := n6_
           clear n0_ n1_ n2_ n3_ n4_ n5_ n6_
           clear hb ho42
           refine hK.out _ _ trivial (fun hHeld => ?_)
           clear hK K
           refine zM 39 ?_
           exact norm_ (by simp only [putAll, Act.put, List.setIfInBounds_toArray, List.set_cons_zero, List.set_cons_succ]) (hCont (v147, v155, v158) _ ⟨(by (with_reducible repeat (first | apply Kd.V_alloc | apply Kd.V_drewN | apply Kd.V_drew)); exact Kd.V_mono HO153.out (fun _ hk => ⟨hk.1.1, ⟨hk.1.2, hk.2⟩⟩)), (zN HO156), (zN HO159), (by (with_reducible repeat (first | apply Kd.V_alloc | apply Kd.V_drewN | apply Kd.V_drew)); exact Kd.V_mono HO167.out (fun _ hk => ⟨hk.1.1, ⟨hk.1.2, hk.2⟩⟩)), (by (with_reducible repeat (first | apply Kd.V_alloc | apply Kd.V_drewN | apply Kd.V_drew)); exact Kd.V_mono HO_0.out (fun _ hk => ⟨hk.1.1, ⟨hk.1.2, hk.2⟩⟩)), (by (with_reducible repeat (first | apply Kd.V_alloc | apply Kd.V_drewN | apply Kd.V_drew)); exact Kd.V_mono HO_1.out (fun _ hk => ⟨hk.1.1, ⟨hk.1.2, hk.2⟩⟩)), (zB HB)⟩)
         · skip
           refine Kd.N_lit_step (Kd.slice 3 (Kd.int .i64)) _ 22 ?hg (N' := 39) ?hd (xs := ([l1] : List (List Int))) (inner := [.slice A1 l1.length c1]) (ok := (fun k_ => ((P0_ k_ ∨ P1_ k_) ∨ w.heap.size ≤ k_) ∧ some k_ ≠ (v147 : Value).ownBlock)) (okp := (fun k_ => ((P0_ k_ ∨ P1_ k_) ∨ w.heap.size ≤ k_) ∧ some k_ ≠ (v147 : Value).ownBlock)) ?hr ?hp (fun _ hk => hk) ((show ∀ k_, w38.heap.size ≤ k_ → (fun k_ => ((P0_ k_ ∨ P1_ k_) ∨ w.heap.size ≤ k_) ∧ some k_ ≠ (v147 : Value).ownBlock) k_ from fun k_ hk => ⟨(.inr (Nat.le_trans (below_size (zB HB)) hk)), Kd.fresh' (Kd.N_lt (zN HO148)) k_ hk⟩) _ (Nat.le_refl _)) (Below.refl _ _) (Nat.le_refl _) (by simp) ?_; (case hd => rfl); (case hg => rfl); (case hr => first | (go_simp; done) | (go_simp; rfl)); (case hp => exact (Reps.one (show Kd.FK (Kd.slice 3 (Kd.int .i64)) _ _ l1 [.slice A1 l1.length c1] from (Kd.FK_slice_mk (Kd.V_reads' (Kd.V_mono (ok' := (fun k_ => ((P0_ k_ ∨ P1_ k_) ∨ w.heap.size ≤ k_) ∧ some k_ ≠ (v147 : Value).ownBlock)) (HO_1.out) (fun k_ hk => ⟨hk.1, hk.2⟩))).2.1 (Kd.V_F (by (with_reducible repeat (first | apply Kd.V_alloc | apply Kd.V_drewN | apply Kd.V_drew)); exact Kd.V_mono (ok' := (fun k_ => ((P0_ k_ ∨ P1_ k_) ∨ w.heap.size ≤ k_) ∧ some k_ ≠ (v147 : Value).ownBlock)) (HO_1.out) (fun k_ hk => ⟨hk.1, hk.2⟩))))) (Reps.none _ _)))
           intro v158 w40 ho41 hb hg_ hnew_
           clear hg_ hnew_
           (first | rw [← Ny157.out] at ho41 | (simp only [Int.reduceToNat] at ho41; rw [← Ny157.out] at ho41))
           have n0_ := zk (Kd.V_elder' (zV HO_0) (by first | exact Kd.N_base ho41 | exact Kd.S_base ho41 | exact Kd.R_base ho41) hb)
           have n1_ := zk (Kd.V_elder' (zV HO_1) (by first | exact Kd.N_base ho41 | exact Kd.S_base ho41 | exact Kd.R_base ho41) hb)
           have n2_ := zk (Kd.V_elder' (zV HO153) (by first | exact Kd.N_base ho41 | exact Kd.S_base ho41 | exact Kd.R_base ho41) hb)
           have n3_ := zk (Kd.V_elder' (zV HO167) (by first | exact Kd.N_base ho41 | exact Kd.S_base ho41 | exact Kd.R_base ho41) hb)
           have n4_ := zk (Kd.N_elder' (zN HO148) (by first | exact Kd.N_base ho41 | exact Kd.S_base ho41 | exact Kd.R_base ho41) hb)
           have n5_ := zk (Kd.N_lower ho41 (below_size (zB HB)))
           have n6_ := zF HB hb
           clear HO_0
           clear HO_1
           clear HO153
           clear HO167
           clear HO148
           clear HB
           have HO_0 := n0_
           have HO_1 := n1_
           have HO153 := n2_
           have HO167 := n3_
           have HO148 := n4_
           have HO159 := n5_
           have HB := n6_
           clear n0_ n1_ n2_ n3_ n4_ n5_ n6_
           clear hb ho41
           refine hK.out _ _ trivial (fun hHeld => ?_)
           clear hK K
           refine zM 39 ?_
           refine one_ (i := 4) (N := some 37) #[true, true, true, true, true, true, true, false, true, true, true, false, false] rfl rfl (one_of HT_.out (by kernel_rfl)) (by decide) (fun K hK => ?_)
           refine Kd.N_append_rows_step (Kd.slice 3 (Kd.int .i64)) (w0 := w) w.heap.size (by rfl) (.tmp 33) (.tmp 36) 28 22 (.slice none 0 0) 24 rfl Try.underlying28 info22 rfl (by decide) (by omega) v147 y146 y149 _ _ _ (fun k_ => ((P0_ k_ ∨ P1_ k_) ∨ w.heap.size ≤ k_) ∧ some k_ ≠ (v158 : Value).ownBlock) (fun k_ => ((fun k_ => ((P0_ k_ ∨ P1_ k_) ∨ w.heap.size ≤ k_) ∧ some k_ ≠ (v158 : Value).ownBlock)) k_ ∧ some k_ ≠ (v147 : Value).ownBlock) rfl rfl ?aO ?aR (fun _ hk => hk) ?aF ?aB ?aS ?aL ?_
           (case aR => exact (by skip; exact Kd.V_F (by (with_reducible repeat (first | apply Kd.V_alloc | apply Kd.V_drewN | apply Kd.V_drew)); exact Kd.V_mono (ok' := (fun k_ => ((fun k_ => ((P0_ k_ ∨ P1_ k_) ∨ w.heap.size ≤ k_) ∧ some k_ ≠ (v158 : Value).ownBlock)) k_ ∧ some k_ ≠ (v147 : Value).ownBlock)) (HO153.out) (fun k_ hk => ⟨⟨hk.1.1, hk.2⟩, hk.1.2⟩))))
           (case aB => exact (zB HB))
           (case aF => exact (fun k_ hk => ⟨(.inr (Nat.le_trans (below_size (zB HB)) hk)), Kd.fresh' (Kd.N_lt (zN HO159)) k_ hk⟩))
           (case aO => exact (zN HO148))
           (case aS => exact (below_size (zB HB)))
           (case aL => have := LMc30.out; omega)
           intro v155 w42 ho hb hg hat
           rw [← Ny154.out] at ho
           have n0_ := zk (Kd.V_afterv (ok := (fun k_ => ((P0_ k_ ∨ P1_ k_) ∨ w.heap.size ≤ k_) ∧ some k_ ≠ (v158 : Value).ownBlock)) (by (with_reducible repeat (first | apply Kd.V_alloc | apply Kd.V_drewN | apply Kd.V_drew)); first | exact Kd.V_mono HO_0.out (fun _ hk => ⟨⟨hk.1.1, hk.2⟩, hk.1.2⟩) | exact Kd.V_mono HO_0.out (fun k_ hk => by (have own_ : ∀ (A : Option Addr) (n c : Nat), (Value.slice A n c).ownBlock = A.map Addr.block := fun A n c => by cases A <;> rfl); simp only [own_] at hk ⊢; exact ⟨⟨hk.1.1, hk.2⟩, hk.1.2⟩)) hg hat)
           have n1_ := zk (Kd.V_afterv (ok := (fun k_ => ((P0_ k_ ∨ P1_ k_) ∨ w.heap.size ≤ k_) ∧ some k_ ≠ (v158 : Value).ownBlock)) (by (with_reducible repeat (first | apply Kd.V_alloc | apply Kd.V_drewN | apply Kd.V_drew)); first | exact Kd.V_mono HO_1.out (fun _ hk => ⟨⟨hk.1.1, hk.2⟩, hk.1.2⟩) | exact Kd.V_mono HO_1.out (fun k_ hk => by (have own_ : ∀ (A : Option Addr) (n c : Nat), (Value.slice A n c).ownBlock = A.map Addr.block := fun A n c => by cases A <;> rfl); simp only [own_] at hk ⊢; exact ⟨⟨hk.1.1, hk.2⟩, hk.1.2⟩)) hg hat)
           have n2_ := zk (Kd.V_afterv (ok := (fun k_ => ((P0_ k_ ∨ P1_ k_) ∨ w.heap.size ≤ k_) ∧ some k_ ≠ (v158 : Value).ownBlock)) (by (with_reducible repeat (first | apply Kd.V_alloc | apply Kd.V_drewN | apply Kd.V_drew)); first | exact Kd.V_mono HO153.out (fun _ hk => ⟨⟨hk.1.1, hk.2⟩, hk.1.2⟩) | exact Kd.V_mono HO153.out (fun k_ hk => by (have own_ : ∀ (A : Option Addr) (n c : Nat), (Value.slice A n c).ownBlock = A.map Addr.block := fun A n c => by cases A <;> rfl); simp only [own_] at hk ⊢; exact ⟨⟨hk.1.1, hk.2⟩, hk.1.2⟩)) hg hat)
           have n3_ := zk (Kd.V_afterv (ok := (fun k_ => ((P0_ k_ ∨ P1_ k_) ∨ w.heap.size ≤ k_) ∧ some k_ ≠ (v158 : Value).ownBlock)) (by (with_reducible repeat (first | apply Kd.V_alloc | apply Kd.V_drewN | apply Kd.V_drew)); first | exact Kd.V_mono HO167.out (fun _ hk => ⟨⟨hk.1.1, hk.2⟩, hk.1.2⟩) | exact Kd.V_mono HO167.out (fun k_ hk => by (have own_ : ∀ (A : Option Addr) (n c : Nat), (Value.slice A n c).ownBlock = A.map Addr.block := fun A n c => by cases A <;> rfl); simp only [own_] at hk ⊢; exact ⟨⟨hk.1.1, hk.2⟩, hk.1.2⟩)) hg hat)
           have n4_ := zk (Kd.N_afterv (ok := (fun k_ => ((P0_ k_ ∨ P1_ k_) ∨ w.heap.size ≤ k_))) (zN HO159) hg hat)
           have n5_ := zk (hb)
           have n6_ := zk (ho)
           clear HO_0
           clear HO_1
           clear HO153
           clear HO167
           clear HO159
           clear HB
           clear HO148
           have HO_0 := n0_
           have HO_1 := n1_
           have HO153 := n2_
           have HO167 := n3_
           have HO159 := n4_
           have HB := n5_
           have HO156 := n6_
           clear n0_ n1_ n2_ n3_ n4_ n5_ n6_
           clear ho hb hg hat
           refine hK.out _ _ trivial (fun hHeld => ?_)
           clear hK K
           refine zM 37 ?_
           exact norm_ (by simp only [putAll, Act.put, List.setIfInBounds_toArray, List.set_cons_zero, List.set_cons_succ]) (hCont (v147, v155, v158) _ ⟨(by (with_reducible repeat (first | apply Kd.V_alloc | apply Kd.V_drewN | apply Kd.V_drew)); exact Kd.V_mono HO153.out (fun _ hk => ⟨hk.1.1, ⟨hk.2, hk.1.2⟩⟩)), (zN HO156), (zN HO159), (by (with_reducible repeat (first | apply Kd.V_alloc | apply Kd.V_drewN | apply Kd.V_drew)); exact Kd.V_mono HO167.out (fun _ hk => ⟨hk.1.1, ⟨hk.2, hk.1.2⟩⟩)), (by (with_reducible repeat (first | apply Kd.V_alloc | apply Kd.V_drewN | apply Kd.V_drew)); exact Kd.V_mono HO_0.out (fun _ hk => ⟨hk.1.1, ⟨hk.2, hk.1.2⟩⟩)), (by (with_reducible repeat (first | apply Kd.V_alloc | apply Kd.V_drewN | apply Kd.V_drew)); exact Kd.V_mono HO_1.out (fun _ hk => ⟨hk.1.1, ⟨hk.2, hk.1.2⟩⟩)), (zB HB)⟩)
       · skip
         refine Kd.N_lit_step (Kd.slice 3 (Kd.int .i64)) _ 22 ?hg (N' := 39) ?hd (xs := ([l1] : List (List Int))) (inner := [.slice A1 l1.length c1]) (ok := (fun k_ => ((P0_ k_ ∨ P1_ k_) ∨ w.heap.size ≤ k_))) (okp := (fun k_ => ((P0_ k_ ∨ P1_ k_) ∨ w.heap.size ≤ k_))) ?hr ?hp (fun _ hk => hk) ((show ∀ k_, w35.heap.size ≤ k_ → (fun k_ => ((P0_ k_ ∨ P1_ k_) ∨ w.heap.size ≤ k_)) k_ from fun k_ hk => (.inr (Nat.le_trans (below_size (zB HB)) hk))) _ (Nat.le_refl _)) (Below.refl _ _) (Nat.le_refl _) (by simp) ?_; (case hd => rfl); (case hg => rfl); (case hr => first | (go_simp; done) | (go_simp; rfl)); (case hp => exact (Reps.one (show Kd.FK (Kd.slice 3 (Kd.int .i64)) _ _ l1 [.slice A1 l1.length c1] from (Kd.FK_slice_mk (Kd.V_reads' (Kd.V_mono (ok' := (fun k_ => ((P0_ k_ ∨ P1_ k_) ∨ w.heap.size ≤ k_))) (HO_1.out) (fun k_ hk => hk))).2.1 (Kd.V_F (by (with_reducible repeat (first | apply Kd.V_alloc | apply Kd.V_drewN | apply Kd.V_drew)); exact Kd.V_mono (ok' := (fun k_ => ((P0_ k_ ∨ P1_ k_) ∨ w.heap.size ≤ k_))) (HO_1.out) (fun k_ hk => hk))))) (Reps.none _ _)))
         intro v158 w38 ho39 hb hg_ hnew_
         clear hg_ hnew_
         (first | rw [← Ny157.out] at ho39 | (simp only [Int.reduceToNat] at ho39; rw [← Ny157.out] at ho39))
         have n0_ := zk (Kd.V_elder' (zV HO_0) (by first | exact Kd.N_base ho39 | exact Kd.S_base ho39 | exact Kd.R_base ho39) hb)
         have n1_ := zk (Kd.V_elder' (zV HO_1) (by first | exact Kd.N_base ho39 | exact Kd.S_base ho39 | exact Kd.R_base ho39) hb)
         have n2_ := zk (Kd.V_elder' (zV HO153) (by first | exact Kd.N_base ho39 | exact Kd.S_base ho39 | exact Kd.R_base ho39) hb)
         have n3_ := zk (Kd.V_elder' (zV HO167) (by first | exact Kd.N_base ho39 | exact Kd.S_base ho39 | exact Kd.R_base ho39) hb)
         have n4_ := zk (Kd.N_lower ho39 (below_size (zB HB)))
         have n5_ := zF HB hb
         clear HO_0
         clear HO_1
         clear HO153
         clear HO167
         clear HB
         have HO_0 := n0_
         have HO_1 := n1_
         have HO153 := n2_
         have HO167 := n3_
         have HO159 := n4_
         have HB := n5_
         clear n0_ n1_ n2_ n3_ n4_ n5_
         clear hb ho39
         refine hK.out _ _ trivial (fun hHeld => ?_)
         clear hK K
         refine zM 39 ?_
         refine one_ (i := 0) (N := some 33) #[true, true, true, true, false, true, true, false, true, true, true, false, false] rfl rfl (one_of HT_.out (by kernel_rfl)) (by decide) (fun K hK => ?_)
         refine Kd.N_lit_step (Kd.slice 3 (Kd.int .i64)) _ 22 ?hg (N' := 33) ?hd (xs := ([] : List (List Int))) (inner := []) (ok := (fun k_ => ((P0_ k_ ∨ P1_ k_) ∨ w.heap.size ≤ k_) ∧ some k_ ≠ (v158 : Value).ownBlock)) (okp := (fun k_ => ((P0_ k_ ∨ P1_ k_) ∨ w.heap.size ≤ k_) ∧ some k_ ≠ (v158 : Value).ownBlock)) ?hr ?hp (fun _ hk => hk) ((show ∀ k_, w38.heap.size ≤ k_ → (fun k_ => ((P0_ k_ ∨ P1_ k_) ∨ w.heap.size ≤ k_) ∧ some k_ ≠ (v158 : Value).ownBlock) k_ from fun k_ hk => ⟨(.inr (Nat.le_trans (below_size (zB HB)) hk)), Kd.fresh' (Kd.N_lt (zN HO159)) k_ hk⟩) _ (Nat.le_refl _)) (Below.refl _ _) (Nat.le_refl _) (by simp) ?_; (case hd => rfl); (case hg => rfl); (case hr => first | (go_simp; done) | (go_simp; rfl)); (case hp => exact (Reps.none _ _))
         intro v147 w40 ho41 hb hg_ hnew_
         clear hg_ hnew_
         (first | rw [← Ny146.out] at ho41 | (simp only [Int.reduceToNat] at ho41; rw [← Ny146.out] at ho41))
         have n0_ := zk (Kd.V_elder' (zV HO_0) (by first | exact Kd.N_base ho41 | exact Kd.S_base ho41 | exact Kd.R_base ho41) hb)
         have n1_ := zk (Kd.V_elder' (zV HO_1) (by first | exact Kd.N_base ho41 | exact Kd.S_base ho41 | exact Kd.R_base ho41) hb)
         have n2_ := zk (Kd.V_elder' (zV HO153) (by first | exact Kd.N_base ho41 | exact Kd.S_base ho41 | exact Kd.R_base ho41) hb)
         have n3_ := zk (Kd.V_elder' (zV HO167) (by first | exact Kd.N_base ho41 | exact Kd.S_base ho41 | exact Kd.R_base ho41) hb)
         have n4_ := zk (Kd.N_elder' (zN HO159) (by first | exact Kd.N_base ho41 | exact Kd.S_base ho41 | exact Kd.R_base ho41) hb)
         have n5_ := zk (Kd.N_lower ho41 (below_size (zB HB)))
         have n6_ := zF HB hb
         clear HO_0
         clear HO_1
         clear HO153
         clear HO167
         clear HO159
         clear HB
         have HO_0 := n0_
         have HO_1 := n1_
         have HO153 := n2_
         have HO167 := n3_
         have HO159 := n4_
         have HO148 := n5_
         have HB := n6_
         clear n0_ n1_ n2_ n3_ n4_ n5_ n6_
         clear hb ho41
         refine hK.out _ _ trivial (fun hHeld => ?_)
         clear hK K
         refine zM 33 ?_
         refine one_ (i := 4) (N := some 37) #[true, true, true, true, true, true, true, false, true, true, true, false, false] rfl rfl (one_of HT_.out (by kernel_rfl)) (by decide) (fun K hK => ?_)
         refine Kd.N_append_rows_step (Kd.slice 3 (Kd.int .i64)) (w0 := w) w.heap.size (by rfl) (.tmp 33) (.tmp 36) 28 22 (.slice none 0 0) 24 rfl Try.underlying28 info22 rfl (by decide) (by omega) v147 y146 y149 _ _ _ (fun k_ => ((P0_ k_ ∨ P1_ k_) ∨ w.heap.size ≤ k_) ∧ some k_ ≠ (v158 : Value).ownBlock) (fun k_ => ((fun k_ => ((P0_ k_ ∨ P1_ k_) ∨ w.heap.size ≤ k_) ∧ some k_ ≠ (v158 : Value).ownBlock)) k_ ∧ some k_ ≠ (v147 : Value).ownBlock) rfl rfl ?aO ?aR (fun _ hk => hk) ?aF ?aB ?aS ?aL ?_
         (case aR => exact (by skip; exact Kd.V_F (by (with_reducible repeat (first | apply Kd.V_alloc | apply Kd.V_drewN | apply Kd.V_drew)); exact Kd.V_mono (ok' := (fun k_ => ((fun k_ => ((P0_ k_ ∨ P1_ k_) ∨ w.heap.size ≤ k_) ∧ some k_ ≠ (v158 : Value).ownBlock)) k_ ∧ some k_ ≠ (v147 : Value).ownBlock)) (HO153.out) (fun k_ hk => ⟨⟨hk.1.1, hk.1.2⟩, hk.2⟩))))
         (case aB => exact (zB HB))
         (case aF => exact (fun k_ hk => ⟨(.inr (Nat.le_trans (below_size (zB HB)) hk)), Kd.fresh' (Kd.N_lt (zN HO159)) k_ hk⟩))
         (case aO => exact (zN HO148))
         (case aS => exact (below_size (zB HB)))
         (case aL => have := LMc30.out; omega)
         intro v155 w42 ho hb hg hat
         rw [← Ny154.out] at ho
         have n0_ := zk (Kd.V_afterv (ok := (fun k_ => ((P0_ k_ ∨ P1_ k_) ∨ w.heap.size ≤ k_) ∧ some k_ ≠ (v158 : Value).ownBlock)) (zV HO_0) hg hat)
         have n1_ := zk (Kd.V_afterv (ok := (fun k_ => ((P0_ k_ ∨ P1_ k_) ∨ w.heap.size ≤ k_) ∧ some k_ ≠ (v158 : Value).ownBlock)) (zV HO_1) hg hat)
         have n2_ := zk (Kd.V_afterv (ok := (fun k_ => ((P0_ k_ ∨ P1_ k_) ∨ w.heap.size ≤ k_) ∧ some k_ ≠ (v158 : Value).ownBlock)) (zV HO153) hg hat)
         have n3_ := zk (Kd.V_afterv (ok := (fun k_ => ((P0_ k_ ∨ P1_ k_) ∨ w.heap.size ≤ k_) ∧ some k_ ≠ (v158 : Value).ownBlock)) (zV HO167) hg hat)
         have n4_ := zk (Kd.N_afterv (ok := (fun k_ => ((P0_ k_ ∨ P1_ k_) ∨ w.heap.size ≤ k_))) (zN HO159) hg hat)
         have n5_ := zk (hb)
         have n6_ := zk (ho)
         clear HO_0
         clear HO_1
         clear HO153
         clear HO167
         clear HO159
         clear HB
         clear HO148
         have HO_0 := n0_
         have HO_1 := n1_
         have HO153 := n2_
         have HO167 := n3_
         have HO159 := n4_
         have HB := n5_
         have HO156 := n6_
         clear n0_ n1_ n2_ n3_ n4_ n5_ n6_
         clear ho hb hg hat
         refine hK.out _ _ trivial (fun hHeld => ?_)
         clear hK K
         refine zM 37 ?_
         exact norm_ (by simp only [putAll, Act.put, List.setIfInBounds_toArray, List.set_cons_zero, List.set_cons_succ]) (hCont (v147, v155, v158) _ ⟨(by (with_reducible repeat (first | apply Kd.V_alloc | apply Kd.V_drewN | apply Kd.V_drew)); exact Kd.V_mono HO153.out (fun _ hk => ⟨hk.1.1, ⟨hk.2, hk.1.2⟩⟩)), (zN HO156), (zN HO159), (by (with_reducible repeat (first | apply Kd.V_alloc | apply Kd.V_drewN | apply Kd.V_drew)); exact Kd.V_mono HO167.out (fun _ hk => ⟨hk.1.1, ⟨hk.2, hk.1.2⟩⟩)), (by (with_reducible repeat (first | apply Kd.V_alloc | apply Kd.V_drewN | apply Kd.V_drew)); exact Kd.V_mono HO_0.out (fun _ hk => ⟨hk.1.1, ⟨hk.2, hk.1.2⟩⟩)), (by (with_reducible repeat (first | apply Kd.V_alloc | apply Kd.V_drewN | apply Kd.V_drew)); exact Kd.V_mono HO_1.out (fun _ hk => ⟨hk.1.1, ⟨hk.2, hk.1.2⟩⟩)), (zB HB)⟩)
     rintro ⟨v147, v155, v158⟩ w43 ⟨h0_, h1_, h2_, h3_, h4_, h5_, h6_⟩
     have n0_ : Aside0 (Kd.V (Kd.slice 3 (Kd.int .i64)) 22 w43 w.heap.size (fun k_ => ((P0_ k_ ∨ P1_ k_) ∨ w.heap.size ≤ k_) ∧ some k_ ≠ (v155 : Value).ownBlock ∧ some k_ ≠ (v158 : Value).ownBlock) (.slice A0 y149.length c0) y149) := ⟨h0_⟩
     have n1_ : Aside0 (Kd.N (Kd.slice 3 (Kd.int .i64)) 22 w43 w.heap.size (fun k_ => ((P0_ k_ ∨ P1_ k_) ∨ w.heap.size ≤ k_) ∧ some k_ ≠ (v158 : Value).ownBlock) v155 y154) := ⟨h1_⟩
     have n2_ : Aside0 (Kd.N (Kd.slice 3 (Kd.int .i64)) 22 w43 w.heap.size (fun k_ => ((P0_ k_ ∨ P1_ k_) ∨ w.heap.size ≤ k_) ∧ some k_ ≠ (v155 : Value).ownBlock) v158 y157) := ⟨h2_⟩
     have n3_ : Aside0 (Kd.V (Kd.slice 3 (Kd.int .i64)) 22 w43 w.heap.size (fun k_ => ((P0_ k_ ∨ P1_ k_) ∨ w.heap.size ≤ k_) ∧ some k_ ≠ (v155 : Value).ownBlock ∧ some k_ ≠ (v158 : Value).ownBlock) (.slice A37 y163.length c37) y163) := ⟨h3_⟩
     have n4_ : Aside0 (Kd.V (Kd.slice 3 (Kd.int .i64)) 22 w43 w.heap.size (fun k_ => ((P0_ k_ ∨ P1_ k_) ∨ w.heap.size ≤ k_) ∧ some k_ ≠ (v155 : Value).ownBlock ∧ some k_ ≠ (v158 : Value).ownBlock) (.slice A0 l0.length c0) l0) := ⟨h4_⟩
     have n5_ : Aside0 (Kd.V (Kd.int .i64) 3 w43 w.heap.size (fun k_ => ((P0_ k_ ∨ P1_ k_) ∨ w.heap.size ≤ k_) ∧ some k_ ≠ (v155 : Value).ownBlock ∧ some k_ ≠ (v158 : Value).ownBlock) (.slice A1 l1.length c1) l1) := ⟨h5_⟩
     have n6_ : Aside0 (Below w.heap.size w w43) := ⟨h6_⟩
     clear HO_0
     clear HO_1
     clear HB
     clear h0_ h1_ h2_ h3_ h4_ h5_ h6_
     have HO153 := n0_
     have HO156 := n1_
     have HO159 := n2_
     have HO167 := n3_
     have HO_0 := n4_
     have HO_1 := n5_
     have HB := n6_
     clear n0_ n1_ n2_ n3_ n4_ n5_ n6_
     have hHeld := trivial
     obtain ⟨Ao45, co45, eo45⟩ := Kd.N_slice HO159.out
     (first | subst eo45 | (injection eo45 with f1_ f2_ f3_; have f4_ := f1_.symm; have f5_ := f3_.symm; clear f1_ f2_ f3_; subst f4_; subst f5_))
     refine norm_ (a' := ?_) ?_ ?_
     rotate_left
     · simp only [putAll, Act.put, List.setIfInBounds_toArray, List.set_cons_zero, List.set_cons_succ]
       rfl
     refine one_ (i := 7) (N := some 40) #[true, true, true, true, true, true, true, true, true, true, true, false, false] rfl rfl (one_of HT_.out (by kernel_rfl)) (by decide) (fun K hK => ?_)
     refine Kd.N_append_rows_step (Kd.slice 3 (Kd.int .i64)) (w0 := w) w.heap.size (by rfl) (.tmp 37) (.tmp 39) 28 22 (.slice none 0 0) 24 rfl Try.underlying28 info22 rfl (by decide) (by omega) v155 y154 y157 _ _ _ (fun k_ => ((P0_ k_ ∨ P1_ k_) ∨ w.heap.size ≤ k_)) (fun k_ => ((fun k_ => ((P0_ k_ ∨ P1_ k_) ∨ w.heap.size ≤ k_))) k_ ∧ some k_ ≠ (v155 : Value).ownBlock) rfl rfl ?aO ?aR (fun _ hk => hk) ?aF ?aB ?aS ?aL ?_
     (case aR => exact (by skip; exact Kd.N_F (Kd.N_mono (ok' := (fun k_ => ((fun k_ => ((P0_ k_ ∨ P1_ k_) ∨ w.heap.size ≤ k_))) k_ ∧ some k_ ≠ (v155 : Value).ownBlock)) (HO159.out) (fun k_ hk => ⟨hk.1, hk.2⟩))))
     (case aB => exact (zB HB))
     (case aF => exact (fun k_ hk => (.inr (Nat.le_trans (below_size (zB HB)) hk))))
     (case aO => exact (by (with_reducible repeat (first | apply Kd.N_alloc | apply Kd.N_drewN | apply Kd.N_drew)); exact Kd.N_mono HO156.out (fun _ hk => hk.1)))
     (case aS => exact (below_size (zB HB)))
     (case aL => have := LMc31.out; omega)
     intro v161 w44 ho hb hg hat
     rw [← Ny160.out] at ho
     have n0_ := zk (Kd.V_afterv (ok := (fun k_ => ((P0_ k_ ∨ P1_ k_) ∨ w.heap.size ≤ k_) ∧ some k_ ≠ (.slice Ao45 y157.length co45 : Value).ownBlock)) (by (with_reducible repeat (first | apply Kd.V_alloc | apply Kd.V_drewN | apply Kd.V_drew)); first | exact Kd.V_mono HO_0.out (fun _ hk => ⟨⟨hk.1, hk.2.2⟩, hk.2.1⟩) | exact Kd.V_mono HO_0.out (fun k_ hk => by (have own_ : ∀ (A : Option Addr) (n c : Nat), (Value.slice A n c).ownBlock = A.map Addr.block := fun A n c => by cases A <;> rfl); simp only [own_] at hk ⊢; exact ⟨⟨hk.1, hk.2.2⟩, hk.2.1⟩)) hg hat)
     have n1_ := zk (Kd.V_afterv (ok := (fun k_ => ((P0_ k_ ∨ P1_ k_) ∨ w.heap.size ≤ k_) ∧ some k_ ≠ (.slice Ao45 y157.length co45 : Value).ownBlock)) (by (with_reducible repeat (first | apply Kd.V_alloc | apply Kd.V_drewN | apply Kd.V_drew)); first | exact Kd.V_mono HO_1.out (fun _ hk => ⟨⟨hk.1, hk.2.2⟩, hk.2.1⟩) | exact Kd.V_mono HO_1.out (fun k_ hk => by (have own_ : ∀ (A : Option Addr) (n c : Nat), (Value.slice A n c).ownBlock = A.map Addr.block := fun A n c => by cases A <;> rfl); simp only [own_] at hk ⊢; exact ⟨⟨hk.1, hk.2.2⟩, hk.2.1⟩)) hg hat)
     have n2_ := zk (Kd.V_afterv (ok := (fun k_ => ((P0_ k_ ∨ P1_ k_) ∨ w.heap.size ≤ k_) ∧ some k_ ≠ (.slice Ao45 y157.length co45 : Value).ownBlock)) (by (with_reducible repeat (first | apply Kd.V_alloc | apply Kd.V_drewN | apply Kd.V_drew)); first | exact Kd.V_mono HO153.out (fun _ hk => ⟨⟨hk.1, hk.2.2⟩, hk.2.1⟩) | exact Kd.V_mono HO153.out (fun k_ hk => by (have own_ : ∀ (A : Option Addr) (n c : Nat), (Value.slice A n c).ownBlock = A.map Addr.block := fun A n c => by cases A <;> rfl); simp only [own_] at hk ⊢; exact ⟨⟨hk.1, hk.2.2⟩, hk.2.1⟩)) hg hat)
     have n3_ := zk (Kd.V_afterv (ok := (fun k_ => ((P0_ k_ ∨ P1_ k_) ∨ w.heap.size ≤ k_) ∧ some k_ ≠ (.slice Ao45 y157.length co45 : Value).ownBlock)) (by (with_reducible repeat (first | apply Kd.V_alloc | apply Kd.V_drewN | apply Kd.V_drew)); first | exact Kd.V_mono HO167.out (fun _ hk => ⟨⟨hk.1, hk.2.2⟩, hk.2.1⟩) | exact Kd.V_mono HO167.out (fun k_ hk => by (have own_ : ∀ (A : Option Addr) (n c : Nat), (Value.slice A n c).ownBlock = A.map Addr.block := fun A n c => by cases A <;> rfl); simp only [own_] at hk ⊢; exact ⟨⟨hk.1, hk.2.2⟩, hk.2.1⟩)) hg hat)
     have n4_ := zk (Kd.N_afterv (ok := (fun k_ => ((P0_ k_ ∨ P1_ k_) ∨ w.heap.size ≤ k_))) (zN HO159) hg hat)
     have n5_ := zk (hb)
     have n6_ := zk (ho)
     clear HO_0
     clear HO_1
     clear HO153
     clear HO167
     clear HO159
     clear HB
     clear HO156
     have HO_0 := n0_
     have HO_1 := n1_
     have HO153 := n2_
     have HO167 := n3_
     have HO159 := n4_
     have HB := n5_
     have HO162 := n6_
     clear n0_ n1_ n2_ n3_ n4_ n5_ n6_
     clear ho hb hg hat
     refine hK.out _ _ trivial (fun hHeld => ?_)
     clear hK K
     refine zM 40 ?_
     refine one_ (i := 11) (N := some 44) #[true, true, true, true, true, true, true, true, true, true, true, true, false] rfl rfl (one_of HT_.out (by kernel_rfl)) (by decide) (fun K hK => ?_)
     refine Kd.N_append_rows_step (Kd.slice 3 (Kd.int .i64)) (w0 := w) w.heap.size (by rfl) (.tmp 40) (.tmp 43) 28 22 (.slice none 0 0) 24 rfl Try.underlying28 info22 rfl (by decide) (by omega) v161 y160 y163 _ _ _ (fun k_ => ((P0_ k_ ∨ P1_ k_) ∨ w.heap.size ≤ k_)) (fun k_ => ((fun k_ => ((P0_ k_ ∨ P1_ k_) ∨ w.heap.size ≤ k_))) k_ ∧ some k_ ≠ (v161 : Value).ownBlock) rfl rfl ?aO ?aR (fun _ hk => hk) ?aF ?aB ?aS ?aL ?_
     (case aR => exact (by skip; exact Kd.V_F (by (with_reducible repeat (first | apply Kd.V_alloc | apply Kd.V_drewN | apply Kd.V_drew)); exact Kd.V_mono (ok' := (fun k_ => ((fun k_ => ((P0_ k_ ∨ P1_ k_) ∨ w.heap.size ≤ k_))) k_ ∧ some k_ ≠ (v161 : Value).ownBlock)) (HO167.out) (fun k_ hk => ⟨hk.1.1, hk.2⟩))))
     (case aB => exact (zB HB))
     (case aF => exact (fun k_ hk => (.inr (Nat.le_trans (below_size (zB HB)) hk))))
     (case aO => exact (zN HO162))
     (case aS => exact (below_size (zB HB)))
     (case aL => have := LMc34.out; omega)
     intro v169 w46 ho hb hg hat
     rw [← Ny168.out] at ho
     have n0_ := zk (Kd.V_afterv (ok := (fun k_ => ((P0_ k_ ∨ P1_ k_) ∨ w.heap.size ≤ k_) ∧ some k_ ≠ (.slice Ao45 y157.length co45 : Value).ownBlock)) (zV HO_0) hg hat)
     have n1_ := zk (Kd.V_afterv (ok := (fun k_ => ((P0_ k_ ∨ P1_ k_) ∨ w.heap.size ≤ k_) ∧ some k_ ≠ (.slice Ao45 y157.length co45 : Value).ownBlock)) (zV HO_1) hg hat)
     have n2_ := zk (Kd.V_afterv (ok := (fun k_ => ((P0_ k_ ∨ P1_ k_) ∨ w.heap.size ≤ k_) ∧ some k_ ≠ (.slice Ao45 y157.length co45 : Value).ownBlock)) (zV HO153) hg hat)
     have n3_ := zk (Kd.V_afterv (ok := (fun k_ => ((P0_ k_ ∨ P1_ k_) ∨ w.heap.size ≤ k_) ∧ some k_ ≠ (.slice Ao45 y157.length co45 : Value).ownBlock)) (zV HO167) hg hat)
     have n4_ := zk (Kd.N_afterv (ok := (fun k_ => ((P0_ k_ ∨ P1_ k_) ∨ w.heap.size ≤ k_))) (zN HO159) hg hat)
     have n5_ := zk (hb)
     have n6_ := zk (ho)
     clear HO_0
     clear HO_1
     clear HO153
     clear HO167
     clear HO159
     clear HB
     clear HO162
     have HO_0 := n0_
     have HO_1 := n1_
     have HO153 := n2_
     have HO167 := n3_
     have HO159 := n4_
     have HB := n5_
     have HO170 := n6_
     clear n0_ n1_ n2_ n3_ n4_ n5_ n6_
     clear ho hb hg hat
     refine hK.out _ _ trivial (fun hHeld => ?_)
     clear hK K
     refine zM 44 ?_
     refine pure_ (i := 12) (N := some 4) (v := ?_) (a' := ?_) #[true, true, true, true, true, true, true, true, true, true, true, true, true] rfl rfl (any_of HT_.out (by kernel_rfl)) (fun _ _ _ h => h) (Or.inl ⟨by rfl, ?_⟩) ?_ ?_
     rotate_left
     · intro w'
       go_simp
       with_reducible rfl
     rotate_left
     · exact zQ
     refine done_ (done_of HT_.out (by kernel_rfl)) ?_
     try go_wp2
     go_ret
     exact ⟨_, by first | rfl | (simp [errW_none, errW_some] <;> rfl) | (simp [*, errW_none, errW_some] <;> rfl), Kd.N_V (zN HO170), by repeat (first | exact HB.out | apply za | apply zd | apply ze)⟩
   rw [if_pos c3] at H
   have c3b0 := decide_eq_true c3
   clear c3
   by_cases c4 : 0 ≤ x5_1
   rotate_left
   · rw [if_neg c4] at H
     exact absurd H (by simp)
   rw [if_pos c4] at H
   have c4b0 := decide_eq_true c4
   clear c4
   replace H := Option.bind_eq_some_iff.mp H
   obtain ⟨t118, A50, H⟩ := H
   try dsimp only at H
   have A5 := zk A50
   clear A50
   by_cases c6 : t118 = true
   rotate_left
   · replace c6 := Bool.eq_false_iff.mpr c6
     subst c6
     have H1 : ((spec_l1Same.f k1 (rd_L1 l0 x5_1) l1).bind fun t120 => (if t120 = true then (some l0) else ((some (([] : List (List Int)) : List (List Int))).bind fun y121 => (if x5_1 ≤ (l0.length : Int) then ((some (l0.take (x5_1 : Int).toNat : List (List Int))).bind fun y124 => (if y121.length + y124.length < 5864062014805 then ((some (y121 ++ y124 : List (List Int))).bind fun y129 => ((some (([l1] : List (List Int)) : List (List Int))).bind fun y132 => (if y129.length + y132.length < 5864062014805 then ((some (y129 ++ y132 : List (List Int))).bind fun y135 => ((some (l0.drop (x5_1 : Int).toNat : List (List Int))).bind fun y138 => (if y135.length + y138.length < 5864062014805 then (some (y135 ++ y138)) else (none)))) else (none)))) else (none))) else (none))))) = some r := by rw [if_neg (show ¬ (false = true) by decide)] at H; exact H
     clear H
     have H := H1
     clear H1
     replace H := Option.bind_eq_some_iff.mp H
     obtain ⟨t120, A70, H⟩ := H
     try dsimp only at H
     have A7 := zk A70
     clear A70
     by_cases c8 : t120 = true
     rotate_left
     · replace c8 := Bool.eq_false_iff.mpr c8
       subst c8
       have H1 : ((some (([] : List (List Int)) : List (List Int))).bind fun y121 => (if x5_1 ≤ (l0.length : Int) then ((some (l0.take (x5_1 : Int).toNat : List (List Int))).bind fun y124 => (if y121.length + y124.length < 5864062014805 then ((some (y121 ++ y124 : List (List Int))).bind fun y129 => ((some (([l1] : List (List Int)) : List (List Int))).bind fun y132 => (if y129.length + y132.length < 5864062014805 then ((some (y129 ++ y132 : List (List Int))).bind fun y135 => ((some (l0.drop (x5_1 : Int).toNat : List (List Int))).bind fun y138 => (if y135.length + y138.length < 5864062014805 then (some (y135 ++ y138)) else (none)))) else (none)))) else (none))) else (none))) = some r := by rw [if_neg (show ¬ (false = true) by decide)] at H; exact H
       clear H
       have H := H1
       clear H1
       obtain ⟨y121, hy121⟩ : ∃ y_ : List (List Int), y_ = (([] : List (List Int))) := ⟨_, rfl⟩
       replace H : (if x5_1 ≤ (l0.length : Int) then ((some (l0.take (x5_1 : Int).toNat : List (List Int))).bind fun y124 => (if y121.length + y124.length < 5864062014805 then ((some (y121 ++ y124 : List (List Int))).bind fun y129 => ((some (([l1] : List (List Int)) : List (List Int))).bind fun y132 => (if y129.length + y132.length < 5864062014805 then ((some (y129 ++ y132 : List (List Int))).bind fun y135 => ((some (l0.drop (x5_1 : Int).toNat : List (List Int))).bind fun y138 => (if y135.length + y138.length < 5864062014805 then (some (y135 ++ y138)) else (none)))) else (none)))) else (none))) else (none)) = some r := by first | (rw [hy121]; with_reducible exact H) | (have H2_ := (Option.bind_some _ _).symm.trans H; rw [hy121]; with_reducible exact H2_) | (have H2_ := (Option.bind_some _ _).symm.trans H; with_reducible exact H2_) | with_reducible exact H | (rw [hy121]; exact H) | exact H
       have Ny121 := zk hy121
       clear hy121
       have c9b0 := eq_true (zo (by assumption) : 0 ≤ x5_1)
       by_cases c10 : x5_1 ≤ (l0.length : Int)
       rotate_left
       · rw [if_neg c10] at H
         exact absurd H (by simp)
       rw [if_pos c10] at H
       have c10b0 := eq_true c10
       have c10b1 := decide_eq_true c10
       clear c10
       obtain ⟨y124, hy124⟩ : ∃ y_ : List (List Int), y_ = (l0.take (x5_1 : Int).toNat) := ⟨_, rfl⟩
       rw [← hy124] at H
       try rw [zO y124] at H
       try dsimp only at H
       have Ny124 := zk hy124
       clear hy124
       by_cases c11 : y121.length + y124.length < 5864062014805
       rotate_left
       · rw [if_neg c11] at H
         exact absurd H (by simp)
       rw [if_pos c11] at H
       have LMc11 := zk c11
       clear c11
       obtain ⟨y129, hy129⟩ : ∃ y_ : List (List Int), y_ = (y121 ++ y124) := ⟨_, rfl⟩
       rw [← hy129] at H
       try rw [zO y129] at H
       try dsimp only at H
       have Ny129 := zk hy129
       clear hy129
       obtain ⟨y132, hy132⟩ : ∃ y_ : List (List Int), y_ = (([l1] : List (List Int))) := ⟨_, rfl⟩
       rw [← hy132] at H
       try rw [zO y132] at H
       try dsimp only at H
       have Ny132 := zk hy132
       clear hy132
       by_cases c12 : y129.length + y132.length < 5864062014805
       rotate_left
       · rw [if_neg c12] at H
         exact absurd H (by simp)
       rw [if_pos c12] at H
       have LMc12 := zk c12
       clear c12
       obtain ⟨y135, hy135⟩ : ∃ y_ : List (List Int), y_ = (y129 ++ y132) := ⟨_, rfl⟩
       rw [← hy135] at H
       try rw [zO y135] at H
       try dsimp only at H
       have Ny135 := zk hy135
       clear hy135
       have c13b0 := eq_true (zo (by assumption) : 0 ≤ x5_1)
       have c14b0 := eq_true (zo (by assumption) : x5_1 ≤ (l0.length : Int))
       obtain ⟨y138, hy138⟩ : ∃ y_ : List (List Int), y_ = (l0.drop (x5_1 : Int).toNat) := ⟨_, rfl⟩
       replace H : (if y135.length + y138.length < 5864062014805 then (some (y135 ++ y138)) else (none)) = some r := by first | (rw [hy138]; with_reducible exact H) | (have H2_ := (Option.bind_some _ _).symm.trans H; rw [hy138]; with_reducible exact H2_) | (have H2_ := (Option.bind_some _ _).symm.trans H; with_reducible exact H2_) | with_reducible exact H | (rw [hy138]; exact H) | exact H
       have Ny138 := zk hy138
       clear hy138
       by_cases c15 : y135.length + y138.length < 5864062014805
       rotate_left
       · rw [if_neg c15] at H
         exact absurd H (by simp)
       rw [if_pos c15] at H
       have LMc15 := zk c15
       clear c15
       obtain ⟨y143, hy143⟩ : ∃ y_ : List (List Int), y_ = (y135 ++ y138) := ⟨_, rfl⟩
       replace H : (some y143) = some r := by first | (rw [hy143]; with_reducible exact H) | (have H2_ := (Option.bind_some _ _).symm.trans H; rw [hy143]; with_reducible exact H2_) | (have H2_ := (Option.bind_some _ _).symm.trans H; with_reducible exact H2_) | with_reducible exact H | (rw [hy143]; exact H) | exact H
       have Ny143 := zk hy143
       clear hy143
       obtain rfl := Option.some.inj H
       have p117 : 0 ≤ (x5_1 : Int) := zo (by assumption)
       have q117 : x5_1 < (l0.length : Int) := zo (by assumption)
       obtain ⟨ad117, A117_0, c117_0, e117, hx117_0, hl117_0, hi117_0⟩ := at_L1 (Kd.V_reads' HO_0.out).2.2 x5_1 p117 q117
       cases e117
       obtain ⟨ce117, hce117, hMe117, hcc117⟩ := Kd.V_get HO_0.out [] x5_1 p117 (by first | exact q117 | exact zo (by assumption) | (have e_ := (Kd.V_reads' HO_0.out).1; omega))
       obtain ⟨ua117_0, uc117_0, rfl, ul117_0, ge117_0⟩ := Kd.FK_slice_open hMe117
       have hv117_0 := hcc117 0 _ rfl
       rw [Nat.add_zero, show ((Kd.slice 3 (Kd.int .i64))).sz = 1 from rfl, Nat.mul_one] at hv117_0
       replace hv117_0 := Option.some.inj (hv117_0.symm.trans hx117_0)
       injection hv117_0 with hva_ hvn_ hvc_
       rw [hva_] at ge117_0
       rw [hvc_] at ul117_0
       have HL117_0 := zk (show Kd.V (Kd.int .i64) 3 _ w.heap.size _ _ (rd_L1 l0 x5_1) from Kd.V_mk ul117_0 ge117_0)
       clear hva_ hvn_ hvc_ ge117_0 ul117_0
       clear hcc117 hce117
       have HR117_0 := zk hi117_0
       have HC117_0 := zk hl117_0
       clear hi117_0 hl117_0
       replace p117 := eq_true p117
       replace q117 := eq_true q117
       try go_wp2_with (first | (go_at_call 227; (with_reducible refine (spec_l2Before.calls k1 _ _ (rd_L1 l0 x5_1) _ _ l1 false _ ?side1 ?side2 ?side3 ?side4 A5.out).mono ?_); (case side1 => exact zC HR117_0.out); (case side2 => exact HC117_0.out); (case side3 => exact zC (Kd.V_reads' HO_1.out).2.2); (case side4 => exact (Kd.V_reads' HO_1.out).2.1); rintro e w' ⟨rfl, ⟨nd, rfl⟩⟩; have p119 : 0 ≤ (x5_1 : Int) := zo (by assumption); have q119 : x5_1 < (l0.length : Int) := zo (by assumption); obtain ⟨ad119, A119_0, c119_0, e119, hx119_0, hl119_0, hi119_0⟩ := at_L1 (Kd.V_reads' HO_0.out).2.2 x5_1 p119 q119; obtain rfl : ad117 = ad119 := (by injection e119); obtain ⟨ce119, hce119, hMe119, hcc119⟩ := Kd.V_get HO_0.out [] x5_1 p119 (by first | exact q119 | exact zo (by assumption) | (have e_ := (Kd.V_reads' HO_0.out).1; omega)); obtain ⟨ua119_0, uc119_0, rfl, ul119_0, ge119_0⟩ := Kd.FK_slice_open hMe119; have hv119_0 := hcc119 0 _ rfl; rw [Nat.add_zero, show ((Kd.slice 3 (Kd.int .i64))).sz = 1 from rfl, Nat.mul_one] at hv119_0; replace hv119_0 := Option.some.inj (hv119_0.symm.trans hx119_0); injection hv119_0 with hva_ hvn_ hvc_; rw [hva_] at ge119_0; rw [hvc_] at ul119_0; have HL119_0 := zk (show Kd.V (Kd.int .i64) 3 _ w.heap.size _ _ (rd_L1 l0 x5_1) from Kd.V_mk ul119_0 ge119_0); clear hva_ hvn_ hvc_ ge119_0 ul119_0; clear hcc119 hce119; have HR119_0 := zk hi119_0; have HC119_0 := zk hl119_0; clear hi119_0 hl119_0; replace p119 := eq_true p119; replace q119 := eq_true q119; have ea_ := Option.some.inj (hx117_0.symm.trans hx119_0); injection ea_ with ea_ en_ ec_; subst ea_; subst ec_; clear en_) | (go_at_call 170; (with_reducible refine (spec_l1Same.calls k1 _ _ (rd_L1 l0 x5_1) _ _ l1 false _ ?side1 ?side2 ?side3 ?side4 A7.out).mono ?_); (case side1 => exact zC HR119_0.out); (case side2 => exact HC119_0.out); (case side3 => exact zC (Kd.V_reads' HO_1.out).2.2); (case side4 => exact (Kd.V_reads' HO_1.out).2.1); rintro e w' ⟨rfl, ⟨nd, rfl⟩⟩))
       (try (rw [drewN_self wr]; generalize hq_ : World.drewN wr _ = wr; have n0_ : Aside0 (Kd.V (Kd.int .i64) 3 wr w.heap.size (fun k_ => ((P0_ k_ ∨ P1_ k_) ∨ w.heap.size ≤ k_)) (.slice A117_0 (rd_L1 l0 x5_1).length c117_0) (rd_L1 l0 x5_1)) := ⟨by rw [← hq_]; exact (zV HL117_0)⟩; have n1_ : Aside0 (Kd.V (Kd.int .i64) 3 wr w.heap.size (fun k_ => ((P0_ k_ ∨ P1_ k_) ∨ w.heap.size ≤ k_)) (.slice A117_0 (rd_L1 l0 x5_1).length c117_0) (rd_L1 l0 x5_1)) := ⟨by rw [← hq_]; exact (zV HL119_0)⟩; have n2_ : Aside0 (Kd.V (Kd.slice 3 (Kd.int .i64)) 22 wr w.heap.size (fun k_ => ((P0_ k_ ∨ P1_ k_) ∨ w.heap.size ≤ k_)) (.slice (some ad117) l0.length c0) l0) := ⟨by rw [← hq_]; exact (zV HO_0)⟩; have n3_ : Aside0 (Kd.V (Kd.int .i64) 3 wr w.heap.size (fun k_ => ((P0_ k_ ∨ P1_ k_) ∨ w.heap.size ≤ k_)) (.slice A1 l1.length c1) l1) := ⟨by rw [← hq_]; exact (zV HO_1)⟩; have n4_ : Aside0 (Below w.heap.size w wr) := ⟨by rw [← hq_]; exact (zB HB)⟩; have n5_ : Aside0 (Kd.C (Kd.int .i64) wr A117_0 (rd_L1 l0 x5_1).length (rd_L1 l0 x5_1)) := ⟨by rw [← hq_]; exact (zC HR117_0.out)⟩; have n6_ : Aside0 (Kd.C (Kd.int .i64) wr A117_0 (rd_L1 l0 x5_1).length (rd_L1 l0 x5_1)) := ⟨by rw [← hq_]; exact (zC HR119_0.out)⟩; clear HL117_0 HL119_0 HO_0 HO_1 HB HR117_0 HR119_0 hq_; have HL117_0 := n0_; have HL119_0 := n1_; have HO_0 := n2_; have HO_1 := n3_; have HB := n4_; have HR117_0 := n5_; have HR119_0 := n6_; clear n0_ n1_ n2_ n3_ n4_ n5_ n6_))
       have n0_ := zk (Kd.V_drew HO_0.out)
       have n1_ := zk (Kd.V_drew HO_1.out)
       have n2_ := zk (Kd.V_drew HL117_0.out)
       have n3_ := zk (Kd.V_drew HL119_0.out)
       have n4_ := zk (zw HR117_0.out)
       have n5_ := zk (zw HR119_0.out)
       have n6_ := zk (ze HB.out)
       clear HO_0
       clear HO_1
       clear HL117_0
       clear HL119_0
       clear HR117_0
       clear HR119_0
       clear HB
       have HO_0 := n0_
       have HO_1 := n1_
       have HL117_0 := n2_
       have HL119_0 := n3_
       have HR117_0 := n4_
       have HR119_0 := n5_
       have HB := n6_
       clear n0_ n1_ n2_ n3_ n4_ n5_ n6_
       have q17 : (x5_1 : Int) ≤ ((l0.length : Int) : Int) := zo (by assumption)
       obtain ⟨i017, hi017, _, hsz17, _⟩ := info_parts info22
       have hroom17 : l0.length ≤ c0 := (Kd.V_reads' HO_0.out).2.1
       have hC17 : Kd.F (Kd.slice 3 (Kd.int .i64)) _ _ (some ad117) l0.length l0 := (Kd.V_at (base := w.heap.size) HO_0.out).2.2
       have hcut17 := cut_to (P := Try.prog) 28 22 .i64 Try.underlying28 hi017 (some ad117) l0.length c0 x5_1 (zo (by assumption)) q17 hroom17
       have hr17 := Kd.F_take (m := (x5_1 : Int).toNat) hC17 (by omega)
       have hy17 : y124.length = (x5_1 : Int).toNat := (by rw [Ny124.out, List.length_take]; omega)
       rw [← Ny124.out] at hr17
       rw [← hy17] at hcut17
       have HO128 := zk (show Kd.V (Kd.slice 3 (Kd.int .i64)) 22 _ w.heap.size _ (.slice (some ad117) y124.length c0) y124 from Kd.V_mk (by omega) hr17)
       have HC128 := zk (show y124.length ≤ c0 from by omega)
       clear hr17 hC17 hroom17 hi017 hsz17
       have KY17 := zk hy17
       clear hy17
       replace q17 := eq_true q17
       have q18 : (x5_1 : Int) ≤ ((l0.length : Int) : Int) := zo (by assumption)
       obtain ⟨i018, hi018, _, hsz18, _⟩ := info_parts info22
       have hroom18 : l0.length ≤ c0 := (Kd.V_reads' HO_0.out).2.1
       have hC18 : Kd.F (Kd.slice 3 (Kd.int .i64)) _ _ (some ad117) l0.length l0 := (Kd.V_at (base := w.heap.size) HO_0.out).2.2
       have q018 : (0 : Int) ≤ (x5_1 : Int) := zo (by assumption)
       have hcut18 := cut_from (P := Try.prog) 28 22 .i64 Try.underlying28 hi018 1 hsz18 (some ad117) l0.length c0 x5_1 q018 q18
       have hr18 := Kd.F_cut (m := (x5_1 : Int).toNat) (c := c0) hC18 (by omega) hroom18
       obtain ⟨A18, hA18⟩ : ∃ A1, A1 = (if c0 = (x5_1 : Int).toNat then (some ad117) else ((some ad117) : Option Addr).map (·.add ((x5_1 : Int).toNat * 1))) := ⟨_, rfl⟩
       obtain ⟨c18, hc18⟩ : ∃ c1, c1 = c0 - (x5_1 : Int).toNat := ⟨_, rfl⟩
       have hy18 : y138.length = l0.length - (x5_1 : Int).toNat := (by rw [Ny138.out, List.length_drop] <;> omega)
       rw [show (l0).drop (x5_1 : Int).toNat = y138 from Ny138.out.symm] at hr18
       replace hr18 : Kd.F (Kd.slice 3 (Kd.int .i64)) _ _ A18 y138.length y138 := (by rw [hA18]; exact hr18)
       rw [← hy18, ← hA18, ← hc18] at hcut18
       have HO142 := zk (show Kd.V (Kd.slice 3 (Kd.int .i64)) 22 _ w.heap.size _ (.slice A18 y138.length c18) y138 from Kd.V_mk (by rw [hy18, hc18]; exact Nat.sub_le_sub_right hroom18 _) hr18)
       have HC142 := zk (show y138.length ≤ c18 from by rw [hy18, hc18]; exact Nat.sub_le_sub_right hroom18 _)
       clear hr18 hC18 hroom18 hi018 hsz18 hc18
       have KY18 := zk hy18
       have KA18 := zk hA18
       clear hy18 hA18
       replace q18 := eq_true q18
       refine start_ (n := 13) (S := fun w' => True) (ds := []) #[false, false, false, false, false, false, false, false, false, false, false, false, false] (by kernel_rfl) rfl rfl trivial (fun hHeld => ?_); refine with_tabW spec_l2PutOrder.tab6 spec_l2PutOrder.bits6 (fun HT_ HW_ => ?_)
       generalize wr.drew = w16 at HO_0 HO_1 HL117_0 HL119_0 HR117_0 HR119_0 HB HO128 HO142 hHeld ⊢
       refine pure_ (i := 1) (N := some 34) (v := ?_) (a' := ?_) #[false, true, false, false, false, false, false, false, false, false, false, false, false] rfl rfl (any_of HT_.out (by kernel_rfl)) (fun _ _ _ h => h) (Or.inl ⟨by rfl, ?_⟩) ?_ ?_
       rotate_left
       · intro w'
         go_simp
         with_reducible rfl
       rotate_left
       · exact zQ
       refine pure_ (i := 2) (N := some 35) (v := ?_) (a' := ?_) #[false, true, true, false, false, false, false, false, false, false, false, false, false] rfl rfl (any_of HT_.out (by kernel_rfl)) (fun _ _ _ h => h) (Or.inl ⟨by rfl, ?_⟩) ?_ ?_
       rotate_left
       · intro w'
         go_simp
         with_reducible rfl
       rotate_left
       · exact zQ
       refine pure_ (i := 3) (N := some 36) (v := ?_) (a' := ?_) #[false, true, true, true, false, false, false, false, false, false, false, false, false] rfl rfl (any_of HT_.out (by kernel_rfl)) (fun _ _ _ h => h) (Or.inl ⟨by rfl, ?_⟩) ?_ ?_
       rotate_left
       · intro w'
         go_simp
         with_reducible rfl
       rotate_left
       · exact zQ
       refine pure_ (i := 5) (N := some 38) (v := ?_) (a' := ?_) #[false, true, true, true, false, true, false, false, false, false, false, false, false] rfl rfl (any_of HT_.out (by kernel_rfl)) (fun _ _ _ h => h) (Or.inl ⟨by rfl, ?_⟩) ?_ ?_
       rotate_left
       · intro w'
         go_simp
         with_reducible rfl
       rotate_left
       · exact zQ
       refine pure_ (i := 8) (N := some 41) (v := ?_) (a' := ?_) #[false, true, true, true, false, true, false, false, true, false, false, false, false] rfl rfl (any_of HT_.out (by kernel_rfl)) (fun _ _ _ h => h) (Or.inl ⟨by rfl, ?_⟩) ?_ ?_
       rotate_left
       · intro w'
         go_simp
         with_reducible rfl
       rotate_left
       · exact zQ
       refine pure_ (i := 9) (N := some 42) (v := ?_) (a' := ?_) #[false, true, true, true, false, true, false, false, true, true, false, false, false] rfl rfl (any_of HT_.out (by kernel_rfl)) (fun _ _ _ h => h) (Or.inl ⟨by rfl, ?_⟩) ?_ ?_
       rotate_left
       · intro w'
         go_simp
         with_reducible rfl
       rotate_left
       · exact zQ
       refine pure_ (i := 10) (N := some 43) (v := ?_) (a' := ?_) #[false, true, true, true, false, true, false, false, true, true, true, false, false] rfl rfl (any_of HT_.out (by kernel_rfl)) (fun _ _ _ h => h) (Or.inl ⟨by rfl, ?_⟩) ?_ ?_
       rotate_left
       · intro w'
         go_simp
         with_reducible rfl
       rotate_left
       · exact zQ
       refine join_ (σ := Value × Value × Value) 3 #[true, true, true, true, true, true, true, false, true, true, true, false, false] (fun s_ => [(33, s_.1), (37, s_.2.1), (39, s_.2.2)]) (fun s_ w' => (Kd.V (Kd.int .i64) 3 w' w.heap.size (fun k_ => ((P0_ k_ ∨ P1_ k_) ∨ w.heap.size ≤ k_) ∧ some k_ ≠ (s_.2.1 : Value).ownBlock ∧ some k_ ≠ (s_.2.2 : Value).ownBlock) (.slice A117_0 (rd_L1 l0 x5_1).length c117_0) (rd_L1 l0 x5_1)) ∧ (Kd.V (Kd.int .i64) 3 w' w.heap.size (fun k_ => ((P0_ k_ ∨ P1_ k_) ∨ w.heap.size ≤ k_) ∧ some k_ ≠ (s_.2.1 : Value).ownBlock ∧ some k_ ≠ (s_.2.2 : Value).ownBlock) (.slice A117_0 (rd_L1 l0 x5_1).length c117_0) (rd_L1 l0 x5_1)) ∧ (Kd.V (Kd.slice 3 (Kd.int .i64)) 22 w' w.heap.size (fun k_ => ((P0_ k_ ∨ P1_ k_) ∨ w.heap.size ≤ k_) ∧ some k_ ≠ (s_.2.1 : Value).ownBlock ∧ some k_ ≠ (s_.2.2 : Value).ownBlock) (.slice (some ad117) y124.length c0) y124) ∧ (Kd.N (Kd.slice 3 (Kd.int .i64)) 22 w' w.heap.size (fun k_ => ((P0_ k_ ∨ P1_ k_) ∨ w.heap.size ≤ k_) ∧ some k_ ≠ (s_.2.2 : Value).ownBlock) s_.2.1 y129) ∧ (Kd.N (Kd.slice 3 (Kd.int .i64)) 22 w' w.heap.size (fun k_ => ((P0_ k_ ∨ P1_ k_) ∨ w.heap.size ≤ k_) ∧ some k_ ≠ (s_.2.1 : Value).ownBlock) s_.2.2 y132) ∧ (Kd.V (Kd.slice 3 (Kd.int .i64)) 22 w' w.heap.size (fun k_ => ((P0_ k_ ∨ P1_ k_) ∨ w.heap.size ≤ k_) ∧ some k_ ≠ (s_.2.1 : Value).ownBlock ∧ some k_ ≠ (s_.2.2 : Value).ownBlock) (.slice A18 y138.length c18) y138) ∧ (Kd.V (Kd.slice 3 (Kd.int .i64)) 22 w' w.heap.size (fun k_ => ((P0_ k_ ∨ P1_ k_) ∨ w.heap.size ≤ k_) ∧ some k_ ≠ (s_.2.1 : Value).ownBlock ∧ some k_ ≠ (s_.2.2 : Value).ownBlock) (.slice (some ad117) l0.length c0) l0) ∧ (Kd.V (Kd.int .i64) 3 w' w.heap.size (fun k_ => ((P0_ k_ ∨ P1_ k_) ∨ w.heap.size ≤ k_) ∧ some k_ ≠ (s_.2.1 : Value).ownBlock ∧ some k_ ≠ (s_.2.2 : Value).ownBlock) (.slice A1 l1.length c1) l1) ∧ (Below w.heap.size w w')) ?_ ?_
       rotate_left
       · intro hCont
         refine two_ (i := 0) (j := 6) (Ni := some 33) (Nj := some 39) #[true, true, true, true, false, true, false, false, true, true, true, false, false] #[false, true, true, true, false, true, true, false, true, true, true, false, false] rfl rfl rfl rfl (two_of HT_.out (by kernel_rfl)) (by decide) (by decide) (fun K hK => ?_) (fun K hK => ?_)
         · skip
           refine Kd.N_lit_step (Kd.slice 3 (Kd.int .i64)) _ 22 ?hg (N' := 33) ?hd (xs := ([] : List (List Int))) (inner := []) (ok := (fun k_ => ((P0_ k_ ∨ P1_ k_) ∨ w.heap.size ≤ k_))) (okp := (fun k_ => ((P0_ k_ ∨ P1_ k_) ∨ w.heap.size ≤ k_))) ?hr ?hp (fun _ hk => hk) ((show ∀ k_, w16.heap.size ≤ k_ → (fun k_ => ((P0_ k_ ∨ P1_ k_) ∨ w.heap.size ≤ k_)) k_ from fun k_ hk => (.inr (Nat.le_trans (below_size (zB HB)) hk))) _ (Nat.le_refl _)) (Below.refl _ _) (Nat.le_refl _) (by simp) ?_; (case hd => rfl); (case hg => rfl); (case hr => first | (go_simp; done) | (go_simp; rfl)); (case hp => exact (Reps.none _ _))
           intro v122 w19 ho20 hb hg_ hnew_
           clear hg_ hnew_
           (first | rw [← Ny121.out] at ho20 | (simp only [Int.reduceToNat] at ho20; rw [← Ny121.out] at ho20))
           have n0_ := zk (Kd.V_elder' (zV HO_0) (by first | exact Kd.N_base ho20 | exact Kd.S_base ho20 | exact Kd.R_base ho20) hb)
           have n1_ := zk (Kd.V_elder' (zV HO_1) (by first | exact Kd.N_base ho20 | exact Kd.S_base ho20 | exact Kd.R_base ho20) hb)
           have n2_ := zk (Kd.V_elder' (zV HL117_0) (by first | exact Kd.N_base ho20 | exact Kd.S_base ho20 | exact Kd.R_base ho20) hb)
           have n3_ := zk (Kd.V_elder' (zV HL119_0) (by first | exact Kd.N_base ho20 | exact Kd.S_base ho20 | exact Kd.R_base ho20) hb)
           have n4_ := zk (Kd.V_elder' (zV HO128) (by first | exact Kd.N_base ho20 | exact Kd.S_base ho20 | exact Kd.R_base ho20) hb)
           have n5_ := zk (Kd.V_elder' (zV HO142) (by first | exact Kd.N_base ho20 | exact Kd.S_base ho20 | exact Kd.R_base ho20) hb)
           have n6_ := zk (Kd.N_lower ho20 (below_size (zB HB)))
           have n7_ := zk (Kd.C_below (zC HR117_0.out) hb)
           have n8_ := zk (Kd.C_below (zC HR119_0.out) hb)
           have n9_ := zF HB hb
           clear HO_0
           clear HO_1
           clear HL117_0
           clear HL119_0
           clear HO128
           clear HO142
           clear HR117_0
           clear HR119_0
           clear HB
           have HO_0 := n0_
           have HO_1 := n1_
           have HL117_0 := n2_
           have HL119_0 := n3_
           have HO128 := n4_
           have HO142 := n5_
           have HO123 := n6_
           have HR117_0 := n7_
           have HR119_0 := n8_
           have HB := n9_
           clear n0_ n1_ n2_ n3_ n4_ n5_ n6_ n7_ n8_ n9_
           clear hb ho20
           refine hK.out _ _ trivial (fun hHeld => ?_)
           clear hK K
           refine zM 33 ?_
           refine two_ (i := 4) (j := 6) (Ni := some 37) (Nj := some 39) #[true, true, true, true, true, true, false, false, true, true, true, false, false] #[true, true, true, true, false, true, true, false, true, true, true, false, false] rfl rfl rfl rfl (two_of HT_.out (by kernel_rfl)) (by decide) (by decide) (fun K hK => ?_) (fun K hK => ?_)
           · skip
             refine Kd.N_append_rows_step (Kd.slice 3 (Kd.int .i64)) (w0 := w) w.heap.size (by rfl) (.tmp 33) (.tmp 36) 28 22 (.slice none 0 0) 24 rfl Try.underlying28 info22 rfl (by decide) (by omega) v122 y121 y124 _ _ _ (fun k_ => ((P0_ k_ ∨ P1_ k_) ∨ w.heap.size ≤ k_)) (fun k_ => ((fun k_ => ((P0_ k_ ∨ P1_ k_) ∨ w.heap.size ≤ k_))) k_ ∧ some k_ ≠ (v122 : Value).ownBlock) rfl rfl ?aO ?aR (fun _ hk => hk) ?aF ?aB ?aS ?aL ?_
             (case aR => exact (by skip; exact Kd.V_F (by (with_reducible repeat (first | apply Kd.V_alloc | apply Kd.V_drewN | apply Kd.V_drew)); exact Kd.V_mono (ok' := (fun k_ => ((fun k_ => ((P0_ k_ ∨ P1_ k_) ∨ w.heap.size ≤ k_))) k_ ∧ some k_ ≠ (v122 : Value).ownBlock)) (HO128.out) (fun k_ hk => ⟨hk.1, hk.2⟩))))
             (case aB => exact (zB HB))
             (case aF => exact (fun k_ hk => (.inr (Nat.le_trans (below_size (zB HB)) hk))))
             (case aO => exact (zN HO123))
             (case aS => exact (below_size (zB HB)))
             (case aL => have := LMc11.out; omega)
             intro v130 w21 ho hb hg hat
             rw [← Ny129.out] at ho
             have n0_ := zk (Kd.V_afterv (ok := (fun k_ => ((P0_ k_ ∨ P1_ k_) ∨ w.heap.size ≤ k_))) (zV HO_0) hg hat)
             have n1_ := zk (Kd.V_afterv (ok := (fun k_ => ((P0_ k_ ∨ P1_ k_) ∨ w.heap.size ≤ k_))) (zV HO_1) hg hat)
             have n2_ := zk (Kd.V_afterv (ok := (fun k_ => ((P0_ k_ ∨ P1_ k_) ∨ w.heap.size ≤ k_))) (zV HL117_0) hg hat)
             have n3_ := zk (Kd.V_afterv (ok := (fun k_ => ((P0_ k_ ∨ P1_ k_) ∨ w.heap.size ≤ k_))) (zV HL119_0) hg hat)
             have n4_ := zk (Kd.V_afterv (ok := (fun k_ => ((P0_ k_ ∨ P1_ k_) ∨ w.heap.size ≤ k_))) (zV HO128) hg hat)
             have n5_ := zk (Kd.V_afterv (ok := (fun k_ => ((P0_ k_ ∨ P1_ k_) ∨ w.heap.size ≤ k_))) (zV HO142) hg hat)
             have n6_ := zk (hb)
             have n7_ := zk (ho)
             clear HO_0
             clear HO_1
             clear HL117_0
             clear HL119_0
             clear HO128
             clear HO142
             clear HB
             clear HO123
             have HO_0 := n0_
             have HO_1 := n1_
             have HL117_0 := n2_
             have HL119_0 := n3_
             have HO128 := n4_
             have HO142 := n5_
             have HB := n6_
             have HO131 := n7_
             clear n0_ n1_ n2_ n3_ n4_ n5_ n6_ n7_
             clear ho hb hg hat
             refine hK.out _ _ trivial (fun hHeld => ?_)
             clear hK K
             refine zM 37 ?_
             refine one_ (i := 6) (N := some 39) #[true, true, true, true, true, true, true, false, true, true, true, false, false] rfl rfl (one_of HT_.out (by kernel_rfl)) (by decide) (fun K hK => ?_)
             refine Kd.N_lit_step (Kd.slice 3 (Kd.int .i64)) _ 22 ?hg (N' := 39) ?hd (xs := ([l1] : List (List Int))) (inner := [.slice A1 l1.length c1]) (ok := (fun k_ => ((P0_ k_ ∨ P1_ k_) ∨ w.heap.size ≤ k_) ∧ some k_ ≠ (v130 : Value).ownBlock)) (okp := (fun k_ => ((P0_ k_ ∨ P1_ k_) ∨ w.heap.size ≤ k_) ∧ some k_ ≠ (v130 : Value).ownBlock)) ?hr ?hp (fun _ hk => hk) ((show ∀ k_, w21.heap.size ≤ k_ → (fun k_ => ((P0_ k_ ∨ P1_ k_) ∨ w.heap.size ≤ k_) ∧ some k_ ≠ (v130 : Value).ownBlock) k_ from fun k_ hk => ⟨(.inr (Nat.le_trans (below_size (zB HB)) hk)), Kd.fresh' (Kd.N_lt (zN HO131)) k_ hk⟩) _ (Nat.le_refl _)) (Below.refl _ _) (Nat.le_refl _) (by simp) ?_; (case hd => rfl); (case hg => rfl); (case hr => first | (go_simp; done) | (go_simp; rfl)); (case hp => exact (Reps.one (show Kd.FK (Kd.slice 3 (Kd.int .i64)) _ _ l1 [.slice A1 l1.length c1] from (Kd.FK_slice_mk (Kd.V_reads' (Kd.V_mono (ok' := (fun k_ => ((P0_ k_ ∨ P1_ k_) ∨ w.heap.size ≤ k_) ∧ some k_ ≠ (v130 : Value).ownBlock)) (HO_1.out) (fun k_ hk => ⟨hk.1, hk.2⟩))).2.1 (Kd.V_F (by (with_reducible repeat (first | apply Kd.V_alloc | apply Kd.V_drewN | apply Kd.V_drew)); exact Kd.V_mono (ok' := (fun k_ => ((P0_ k_ ∨ P1_ k_) ∨ w.heap.size ≤ k_) ∧ some k_ ≠ (v130 : Value).ownBlock)) (HO_1.out) (fun k_ hk => ⟨hk.1, hk.2⟩))))) (Reps.none _ _)))
             intro v133 w22 ho23 hb hg_ hnew_
             clear hg_ hnew_
             (first | rw [← Ny132.out] at ho23 | (simp only [Int.reduceToNat] at ho23; rw [← Ny132.out] at ho23))
             have n0_ := zk (Kd.V_elder' (zV HO_0) (by first | exact Kd.N_base ho23 | exact Kd.S_base ho23 | exact Kd.R_base ho23) hb)
             have n1_ := zk (Kd.V_elder' (zV HO_1) (by first | exact Kd.N_base ho23 | exact Kd.S_base ho23 | exact Kd.R_base ho23) hb)
             have n2_ := zk (Kd.V_elder' (zV HL117_0) (by first | exact Kd.N_base ho23 | exact Kd.S_base ho23 | exact Kd.R_base ho23) hb)
             have n3_ := zk (Kd.V_elder' (zV HL119_0) (by first | exact Kd.N_base ho23 | exact Kd.S_base ho23 | exact Kd.R_base ho23) hb)
             have n4_ := zk (Kd.V_elder' (zV HO128) (by first | exact Kd.N_base ho23 | exact Kd.S_base ho23 | exact Kd.R_base ho23) hb)
             have n5_ := zk (Kd.V_elder' (zV HO142) (by first | exact Kd.N_base ho23 | exact Kd.S_base ho23 | exact Kd.R_base ho23) hb)
             have n6_ := zk (Kd.N_elder' (zN HO131) (by first | exact Kd.N_base ho23 | exact Kd.S_base ho23 | exact Kd.R_base ho23) hb)
             have n7_ := zk (Kd.N_lower ho23 (below_size (zB HB)))
             have n8_ := zF HB hb
             clear HO_0
             clear HO_1
             clear HL117_0
             clear HL119_0
             clear HO128
             clear HO142
             clear HO131
             clear HB
             have HO_0 := n0_
             have HO_1 := n1_
             have HL117_0 := n2_
             have HL119_0 := n3_
             have HO128 := n4_
             have HO142 := n5_
             have HO131 := n6_
             have HO134 := n7_
             have HB := n8_
             clear n0_ n1_ n2_ n3_ n4_ n5_ n6_ n7_ n8_
             clear hb ho23
             refine hK.out _ _ trivial (fun hHeld => ?_)
             clear hK K
             refine zM 39 ?_
             exact norm_ (by simp only [putAll, Act.put, List.setIfInBounds_toArray, List.set_cons_zero, List.set_cons_succ]) (hCont (v122, v130, v133) _ ⟨(by (with_reducible repeat (first | apply Kd.V_alloc | apply Kd.V_drewN | apply Kd.V_drew)); exact Kd.V_mono HL117_0.out (fun _ hk => ⟨hk.1.1, ⟨hk.1.2, hk.2⟩⟩)), (by (with_reducible repeat (first | apply Kd.V_alloc | apply Kd.V_drewN | apply Kd.V_drew)); exact Kd.V_mono HL119_0.out (fun _ hk => ⟨hk.1.1, ⟨hk.1.2, hk.2⟩⟩)), (by (with_reducible repeat (first | apply Kd.V_alloc | apply Kd.V_drewN | apply Kd.V_drew)); exact Kd.V_mono HO128.out (fun _ hk => ⟨hk.1.1, ⟨hk.1.2, hk.2⟩⟩)), (zN HO131), (zN HO134), (by (with_reducible repeat (first | apply Kd.V_alloc | apply Kd.V_drewN | apply Kd.V_drew)); exact Kd.V_mono HO142.out (fun _ hk => ⟨hk.1.1, ⟨hk.1.2, hk.2⟩⟩)), (by (with_reducible repeat (first | apply Kd.V_alloc | apply Kd.V_drewN | apply Kd.V_drew)); exact Kd.V_mono HO_0.out (fun _ hk => ⟨hk.1.1, ⟨hk.1.2, hk.2⟩⟩)), (by (with_reducible repeat (first | apply Kd.V_alloc | apply Kd.V_drewN | apply Kd.V_drew)); exact Kd.V_mono HO_1.out (fun _ hk => ⟨hk.1.1, ⟨hk.1.2, hk.2⟩⟩)), (zB HB)⟩)
           · skip
             refine Kd.N_lit_step (Kd.slice 3 (Kd.int .i64)) _ 22 ?hg (N' := 39) ?hd (xs := ([l1] : List (List Int))) (inner := [.slice A1 l1.length c1]) (ok := (fun k_ => ((P0_ k_ ∨ P1_ k_) ∨ w.heap.size ≤ k_) ∧ some k_ ≠ (v122 : Value).ownBlock)) (okp := (fun k_ => ((P0_ k_ ∨ P1_ k_) ∨ w.heap.size ≤ k_) ∧ some k_ ≠ (v122 : Value).ownBlock)) ?hr ?hp (fun _ hk => hk) ((show ∀ k_, w19.heap.size ≤ k_ → (fun k_ => ((P0_ k_ ∨ P1_ k_) ∨ w.heap.size ≤ k_) ∧ some k_ ≠ (v122 : Value).ownBlock) k_ from fun k_ hk => ⟨(.inr (Nat.le_trans (below_size (zB HB)) hk)), Kd.fresh' (Kd.N_lt (zN HO123)) k_ hk⟩) _ (Nat.le_refl _)) (Below.refl _ _) (Nat.le_refl _) (by simp) ?_; (case hd => rfl); (case hg => rfl); (case hr => first | (go_simp; done) | (go_simp; rfl)); (case hp => exact (Reps.one (show Kd.FK (Kd.slice 3 (Kd.int .i64)) _ _ l1 [.slice A1 l1.length c1] from (Kd.FK_slice_mk (Kd.V_reads' (Kd.V_mono (ok' := (fun k_ => ((P0_ k_ ∨ P1_ k_) ∨ w.heap.size ≤ k_) ∧ some k_ ≠ (v122 : Value).ownBlock)) (HO_1.out) (fun k_ hk => ⟨hk.1, hk.2⟩))).2.1 (Kd.V_F (by (with_reducible repeat (first | apply Kd.V_alloc | apply Kd.V_drewN | apply Kd.V_drew)); exact Kd.V_mono (ok' := (fun k_ => ((P0_ k_ ∨ P1_ k_) ∨ w.heap.size ≤ k_) ∧ some k_ ≠ (v122 : Value).ownBlock)) (HO_1.out) (fun k_ hk => ⟨hk.1, hk.2⟩))))) (Reps.none _ _)))
             intro v133 w21 ho22 hb hg_ hnew_
             clear hg_ hnew_
             (first | rw [← Ny132.out] at ho22 | (simp only [Int.reduceToNat] at ho22; rw [← Ny132.out] at ho22))
             have n0_ := zk (Kd.V_elder' (zV HO_0) (by first | exact Kd.N_base ho22 | exact Kd.S_base ho22 | exact Kd.R_base ho22) hb)
             have n1_ := zk (Kd.V_elder' (zV HO_1) (by first | exact Kd.N_base ho22 | exact Kd.S_base ho22 | exact Kd.R_base ho22) hb)
             have n2_ := zk (Kd.V_elder' (zV HL117_0) (by first | exact Kd.N_base ho22 | exact Kd.S_base ho22 | exact Kd.R_base ho22) hb)
             have n3_ := zk (Kd.V_elder' (zV HL119_0) (by first | exact Kd.N_base ho22 | exact Kd.S_base ho22 | exact Kd.R_base ho22) hb)
             have n4_ := zk (Kd.V_elder' (zV HO128) (by first | exact Kd.N_base ho22 | exact Kd.S_base ho22 | exact Kd.R_base ho22) hb)
             have n5_ := zk (Kd.V_elder' (zV HO142) (by first | exact Kd.N_base ho22 | exact Kd.S_base ho22 | exact Kd.R_base ho22) hb)
             have n6_ := zk (Kd.N_elder' (zN HO123) (by first | exact Kd.N_base ho22 | exact Kd.S_base ho22 | exact Kd.R_base ho22) hb)
             have n7_ := zk (Kd.N_lower ho22 (below_size (zB HB)))
             have n8_ := zk (Kd.C_below (zC HR117_0.out) hb)
             have n9_ := zk (Kd.C_below (zC HR119_0.out) hb)
             have n10_ := zF HB hb
             clear HO_0
             clear HO_1
             clear HL117_0
             clear HL119_0
             clear HO128
             clear HO142
             clear HO123
             clear HR117_0
             clear HR119_0
             clear HB
             have HO_0 := n0_
             have HO_1 := n1_
             have HL117_0 := n2_
             have HL119_0 := n3_
             have HO128 := n4_
             have HO142 := n5_
             have HO123 := n6_
             have HO134 := n7_
             have HR117_0 := n8_
             have HR119_0 := n9_
             have HB := n10_
             clear n0_ n1_ n2_ n3_ n4_ n5_ n6_ n7_ n8_ n9_ n10_
             clear hb ho22
             refine hK.out _ _ trivial (fun hHeld => ?_)
             clear hK K
             refine zM 39 ?_
             refine one_ (i := 4) (N := some 37) #[true, true, true, true, true, true, true, false, true, true, true, false, false] rfl rfl (one_of HT_.out (by kernel_rfl)) (by decide) (fun K hK => ?_)
             refine Kd.N_append_rows_step (Kd.slice 3 (Kd.int .i64)) (w0 := w) w.heap.size (by rfl) (.tmp 33) (.tmp 36) 28 22 (.slice none 0 0) 24 rfl Try.underlying28 info22 rfl (by decide) (by omega) v122 y121 y124 _ _ _ (fun k_ => ((P0_ k_ ∨ P1_ k_) ∨ w.heap.size ≤ k_) ∧ some k_ ≠ (v133 : Value).ownBlock) (fun k_ => ((fun k_ => ((P0_ k_ ∨ P1_ k_) ∨ w.heap.size ≤ k_) ∧ some k_ ≠ (v133 : Value).ownBlock)) k_ ∧ some k_ ≠ (v122 : Value).ownBlock) rfl rfl ?aO ?aR (fun _ hk => hk) ?aF ?aB ?aS ?aL ?_
             (case aR => exact (by skip; exact Kd.V_F (by (with_reducible repeat (first | apply Kd.V_alloc | apply Kd.V_drewN | apply Kd.V_drew)); exact Kd.V_mono (ok' := (fun k_ => ((fun k_ => ((P0_ k_ ∨ P1_ k_) ∨ w.heap.size ≤ k_) ∧ some k_ ≠ (v133 : Value).ownBlock)) k_ ∧ some k_ ≠ (v122 : Value).ownBlock)) (HO128.out) (fun k_ hk => ⟨⟨hk.1.1, hk.2⟩, hk.1.2⟩))))
             (case aB => exact (zB HB))
             (case aF => exact (fun k_ hk => ⟨(.inr (Nat.le_trans (below_size (zB HB)) hk)), Kd.fresh' (Kd.N_lt (zN HO134)) k_ hk⟩))
             (case aO => exact (zN HO123))
             (case aS => exact (below_size (zB HB)))
             (case aL => have := LMc11.out; omega)
             intro v130 w23 ho hb hg hat
             rw [← Ny129.out] at ho
             have n0_ := zk (Kd.V_afterv (ok := (fun k_ => ((P0_ k_ ∨ P1_ k_) ∨ w.heap.size ≤ k_) ∧ some k_ ≠ (v133 : Value).ownBlock)) (by (with_reducible repeat (first | apply Kd.V_alloc | apply Kd.V_drewN | apply Kd.V_drew)); first | exact Kd.V_mono HO_0.out (fun _ hk => ⟨⟨hk.1.1, hk.2⟩, hk.1.2⟩) | exact Kd.V_mono HO_0.out (fun k_ hk => by (have own_ : ∀ (A : Option Addr) (n c : Nat), (Value.slice A n c).ownBlock = A.map Addr.block := fun A n c => by cases A <;> rfl); simp only [own_] at hk ⊢; exact ⟨⟨hk.1.1, hk.2⟩, hk.1.2⟩)) hg hat)
             have n1_ := zk (Kd.V_afterv (ok := (fun k_ => ((P0_ k_ ∨ P1_ k_) ∨ w.heap.size ≤ k_) ∧ some k_ ≠ (v133 : Value).ownBlock)) (by (with_reducible repeat (first | apply Kd.V_alloc | apply Kd.V_drewN | apply Kd.V_drew)); first | exact Kd.V_mono HO_1.out (fun _ hk => ⟨⟨hk.1.1, hk.2⟩, hk.1.2⟩) | exact Kd.V_mono HO_1.out (fun k_ hk => by (have own_ : ∀ (A : Option Addr) (n c : Nat), (Value.slice A n c).ownBlock = A.map Addr.block := fun A n c => by cases A <;> rfl); simp only [own_] at hk ⊢; exact ⟨⟨hk.1.1, hk.2⟩, hk.1.2⟩)) hg hat)
             have n2_ := zk (Kd.V_afterv (ok := (fun k_ => ((P0_ k_ ∨ P1_ k_) ∨ w.heap.size ≤ k_) ∧ some k_ ≠ (v133 : Value).ownBlock)) (by (with_reducible repeat (first | apply Kd.V_alloc | apply Kd.V_drewN | apply Kd.V_drew)); exact Kd.V_mono HL117_0.out (fun _ hk => ⟨⟨hk.1.1, hk.2⟩, hk.1.2⟩)) hg hat)
             have n3_ := zk (Kd.V_afterv (ok := (fun k_ => ((P0_ k_ ∨ P1_ k_) ∨ w.heap.size ≤ k_) ∧ some k_ ≠ (v133 : Value).ownBlock)) (by (with_reducible repeat (first | apply Kd.V_alloc | apply Kd.V_drewN | apply Kd.V_drew)); exact Kd.V_mono HL119_0.out (fun _ hk => ⟨⟨hk.1.1, hk.2⟩, hk.1.2⟩)) hg hat)
             have n4_ := zk (Kd.V_afterv (ok := (fun k_ => ((P0_ k_ ∨ P1_ k_) ∨ w.heap.size ≤ k_) ∧ some k_ ≠ (v133 : Value).ownBlock)) (by (with_reducible repeat (first | apply Kd.V_alloc | apply Kd.V_drewN | apply Kd.V_drew)); first | exact Kd.V_mono HO128.out (fun _ hk => ⟨⟨hk.1.1, hk.2⟩, hk.1.2⟩) | exact Kd.V_mono HO128.out (fun k_ hk => by (have own_ : ∀ (A : Option Addr) (n c : Nat), (Value.slice A n c).ownBlock = A.map Addr.block := fun A n c => by cases A <;> rfl); simp only [own_] at hk ⊢; exact ⟨⟨hk.1.1, hk.2⟩, hk.1.2⟩)) hg hat)
             have n5_ := zk (Kd.V_afterv (ok := (fun k_ => ((P0_ k_ ∨ P1_ k_) ∨ w.heap.size ≤ k_) ∧ some k_ ≠ (v133 : Value).ownBlock)) (by (with_reducible repeat (first | apply Kd.V_alloc | apply Kd.V_drewN | apply Kd.V_drew)); first | exact Kd.V_mono HO142.out (fun _ hk => ⟨⟨hk.1.1, hk.2⟩, hk.1.2⟩) | exact Kd.V_mono HO142.out (fun k_ hk => by (have own_ : ∀ (A : Option Addr) (n c : Nat), (Value.slice A n c).ownBlock = A.map Addr.block := fun A n c => by cases A <;> rfl); simp only [own_] at hk ⊢; exact ⟨⟨hk.1.1, hk.2⟩, hk.1.2⟩)) hg hat)
             have n6_ := zk (Kd.N_afterv (ok := (fun k_ => ((P0_ k_ ∨ P1_ k_) ∨ w.heap.size ≤ k_))) (zN HO134) hg hat)
             have n7_ := zk (hb)
             have n8_ := zk (ho)
             clear HO_0
             clear HO_1
             clear HL117_0
             clear HL119_0
             clear HO128
             clear HO142
             clear HO134
             clear HB
             clear HO123
             have HO_0 := n0_
             have HO_1 := n1_
             have HL117_0 := n2_
             have HL119_0 := n3_
             have HO128 := n4_
             have HO142 := n5_
             have HO134 := n6_
             have HB := n7_
             have HO131 := n8_
             clear n0_ n1_ n2_ n3_ n4_ n5_ n6_ n7_ n8_
             clear ho hb hg hat
             refine hK.out _ _ trivial (fun hHeld => ?_)
             clear hK K
             refine zM 37 ?_
             exact norm_ (by simp only [putAll, Act.put, List.setIfInBounds_toArray, List.set_cons_zero, List.set_cons_succ]) (hCont (v122, v130, v133) _ ⟨(by (with_reducible repeat (first | apply Kd.V_alloc | apply Kd.V_drewN | apply Kd.V_drew)); exact Kd.V_mono HL117_0.out (fun _ hk => ⟨hk.1.1, ⟨hk.2, hk.1.2⟩⟩)), (by (with_reducible repeat (first | apply Kd.V_alloc | apply Kd.V_drewN | apply Kd.V_drew)); exact Kd.V_mono HL119_0.out (fun _ hk => ⟨hk.1.1, ⟨hk.2, hk.1.2⟩⟩)), (by (with_reducible repeat (first | apply Kd.V_alloc | apply Kd.V_drewN | apply Kd.V_drew)); exact Kd.V_mono HO128.out (fun _ hk => ⟨hk.1.1, ⟨hk.2, hk.1.2⟩⟩)), (zN HO131), (zN HO134), (by (with_reducible repeat (first | apply Kd.V_alloc | apply Kd.V_drewN | apply Kd.V_drew)); exact Kd.V_mono HO142.out (fun _ hk => ⟨hk.1.1, ⟨hk.2, hk.1.2⟩⟩)), (by (with_reducible repeat (first | apply Kd.V_alloc | apply Kd.V_drewN | apply Kd.V_drew)); exact Kd.V_mono HO_0.out (fun _ hk => ⟨hk.1.1, ⟨hk.2, hk.1.2⟩⟩)), (by (with_reducible repeat (first | apply Kd.V_alloc | apply Kd.V_drewN | apply Kd.V_drew)); exact Kd.V_mono HO_1.out (fun _ hk => ⟨hk.1.1, ⟨hk.2, hk.1.2⟩⟩)), (zB HB)⟩)
         · skip
           refine Kd.N_lit_step (Kd.slice 3 (Kd.int .i64)) _ 22 ?hg (N' := 39) ?hd (xs := ([l1] : List (List Int))) (inner := [.slice A1 l1.length c1]) (ok := (fun k_ => ((P0_ k_ ∨ P1_ k_) ∨ w.heap.size ≤ k_))) (okp := (fun k_ => ((P0_ k_ ∨ P1_ k_) ∨ w.heap.size ≤ k_))) ?hr ?hp (fun _ hk => hk) ((show ∀ k_, w16.heap.size ≤ k_ → (fun k_ => ((P0_ k_ ∨ P1_ k_) ∨ w.heap.size ≤ k_)) k_ from fun k_ hk => (.inr (Nat.le_trans (below_size (zB HB)) hk))) _ (Nat.le_refl _)) (Below.refl _ _) (Nat.le_refl _) (by simp) ?_; (case hd => rfl); (case hg => rfl); (case hr => first | (go_simp; done) | (go_simp; rfl)); (case hp => exact (Reps.one (show Kd.FK (Kd.slice 3 (Kd.int .i64)) _ _ l1 [.slice A1 l1.length c1] from (Kd.FK_slice_mk (Kd.V_reads' (Kd.V_mono (ok' := (fun k_ => ((P0_ k_ ∨ P1_ k_) ∨ w.heap.size ≤ k_))) (HO_1.out) (fun k_ hk => hk))).2.1 (Kd.V_F (by (with_reducible repeat (first | apply Kd.V_alloc | apply Kd.V_drewN | apply Kd.V_drew)); exact Kd.V_mono (ok' := (fun k_ => ((P0_ k_ ∨ P1_ k_) ∨ w.heap.size ≤ k_))) (HO_1.out) (fun k_ hk => hk))))) (Reps.none _ _)))
           intro v133 w19 ho20 hb hg_ hnew_
           clear hg_ hnew_
           (first | rw [← Ny132.out] at ho20 | (simp only [Int.reduceToNat] at ho20; rw [← Ny132.out] at ho20))
           have n0_ := zk (Kd.V_elder' (zV HO_0) (by first | exact Kd.N_base ho20 | exact Kd.S_base ho20 | exact Kd.R_base ho20) hb)
           have n1_ := zk (Kd.V_elder' (zV HO_1) (by first | exact Kd.N_base ho20 | exact Kd.S_base ho20 | exact Kd.R_base ho20) hb)
           have n2_ := zk (Kd.V_elder' (zV HL117_0) (by first | exact Kd.N_base ho20 | exact Kd.S_base ho20 | exact Kd.R_base ho20) hb)
           have n3_ := zk (Kd.V_elder' (zV HL119_0) (by first | exact Kd.N_base ho20 | exact Kd.S_base ho20 | exact Kd.R_base ho20) hb)
           have n4_ := zk (Kd.V_elder' (zV HO128) (by first | exact Kd.N_base ho20 | exact Kd.S_base ho20 | exact Kd.R_base ho20) hb)
           have n5_ := zk (Kd.V_elder' (zV HO142) (by first | exact Kd.N_base ho20 | exact Kd.S_base ho20 | exact Kd.R_base ho20) hb)
           have n6_ := zk (Kd.N_lower ho20 (below_size (zB HB)))
           have n7_ := zk (Kd.C_below (zC HR117_0.out) hb)
           have n8_ := zk (Kd.C_below (zC HR119_0.out) hb)
           have n9_ := zF HB hb
           clear HO_0
           clear HO_1
           clear HL117_0
           clear HL119_0
           clear HO128
           clear HO142
           clear HR117_0
           clear HR119_0
           clear HB
           have HO_0 := n0_
           have HO_1 := n1_
           have HL117_0 := n2_
           have HL119_0 := n3_
           have HO128 := n4_
           have HO142 := n5_
           have HO134 := n6_
           have HR117_0 := n7_
           have HR119_0 := n8_
           have HB := n9_
           clear n0_ n1_ n2_ n3_ n4_ n5_ n6_ n7_ n8_ n9_
           clear hb ho20
           refine hK.out _ _ trivial (fun hHeld => ?_)
           clear hK K
           refine zM 39 ?_
           refine one_ (i := 0) (N := some 33) #[true, true, true, true, false, true, true, false, true, true, true, false, false] rfl rfl (one_of HT_.out (by kernel_rfl)) (by decide) (fun K hK => ?_)
           refine Kd.N_lit_step (Kd.slice 3 (Kd.int .i64)) _ 22 ?hg (N' := 33) ?hd (xs := ([] : List (List Int))) (inner := []) (ok := (fun k_ => ((P0_ k_ ∨ P1_ k_) ∨ w.heap.size ≤ k_) ∧ some k_ ≠ (v133 : Value).ownBlock)) (okp := (fun k_ => ((P0_ k_ ∨ P1_ k_) ∨ w.heap.size ≤ k_) ∧ some k_ ≠ (v133 : Value).ownBlock)) ?hr ?hp (fun _ hk => hk) ((show ∀ k_, w19.heap.size ≤ k_ → (fun k_ => ((P0_ k_ ∨ P1_ k_) ∨ w.heap.size ≤ k_) ∧ some k_ ≠ (v133 : Value).ownBlock) k_ from fun k_ hk => ⟨(.inr (Nat.le_trans (below_size (zB HB)) hk)), Kd.fresh' (Kd.N_lt (zN HO134)) k_ hk⟩) _ (Nat.le_refl _)) (Below.refl _ _) (Nat.le_refl _) (by simp) ?_; (case hd => rfl); (case hg => rfl); (case hr => first | (go_simp; done) | (go_simp; rfl)); (case hp => exact (Reps.none _ _))
           intro v122 w21 ho22 hb hg_ hnew_
           clear hg_ hnew_
           (first | rw [← Ny121.out] at ho22 | (simp only [Int.reduceToNat] at ho22; rw [← Ny121.out] at ho22))
           have n0_ := zk (Kd.V_elder' (zV HO_0) (by first | exact Kd.N_base ho22 | exact Kd.S_base ho22 | exact Kd.R_base ho22) hb)
           have n1_ := zk (Kd.V_elder' (zV HO_1) (by first | exact Kd.N_base ho22 | exact Kd.S_base ho22 | exact Kd.R_base ho22) hb)
           have n2_ := zk (Kd.V_elder' (zV HL117_0) (by first | exact Kd.N_base ho22 | exact Kd.S_base ho22 | exact Kd.R_base ho22) hb)
           have n3_ := zk (Kd.V_elder' (zV HL119_0) (by first | exact Kd.N_base ho22 | exact Kd.S_base ho22 | exact Kd.R_base ho22) hb)
           have n4_ := zk (Kd.V_elder' (zV HO128) (by first | exact Kd.N_base ho22 | exact Kd.S_base ho22 | exact Kd.R_base ho22) hb)
           have n5_ := zk (Kd.V_elder' (zV HO142) (by first | exact Kd.N_base ho22 | exact Kd.S_base ho22 | exact Kd.R_base ho22) hb)
           have n6_ := zk (Kd.N_elder' (zN HO134) (by first | exact Kd.N_base ho22 | exact Kd.S_base ho22 | exact Kd.R_base ho22) hb)
           have n7_ := zk (Kd.N_lower ho22 (below_size (zB HB)))
           have n8_ := zk (Kd.C_below (zC HR117_0.out) hb)
           have n9_ := zk (Kd.C_below (zC HR119_0.out) hb)
           have n10_ := zF HB hb
           clear HO_0
           clear HO_1
           clear HL117_0
           clear HL119_0
           clear HO128
           clear HO142
           clear HO134
           clear HR117_0
           clear HR119_0
           clear HB
           have HO_0 := n0_
           have HO_1 := n1_
           have HL117_0 := n2_
           have HL119_0 := n3_
           have HO128 := n4_
           have HO142 := n5_
           have HO134 := n6_
           have HO123 := n7_
           have HR117_0 := n8_
           have HR119_0 := n9_
           have HB := n10_
           clear n0_ n1_ n2_ n3_ n4_ n5_ n6_ n7_ n8_ n9_ n10_
           clear hb ho22
           refine hK.out _ _ trivial (fun hHeld => ?_)
           clear hK K
           refine zM 33 ?_
           refine one_ (i := 4) (N := some 37) #[true, true, true, true, true, true, true, false, true, true, true, false, false] rfl rfl (one_of HT_.out (by kernel_rfl)) (by decide) (fun K hK => ?_)
           refine Kd.N_append_rows_step (Kd.slice 3 (Kd.int .i64)) (w0 := w) w.heap.size (by rfl) (.tmp 33) (.tmp 36) 28 22 (.slice none 0 0) 24 rfl Try.underlying28 info22 rfl (by decide) (by omega) v122 y121 y124 _ _ _ (fun k_ => ((P0_ k_ ∨ P1_ k_) ∨ w.heap.size ≤ k_) ∧ some k_ ≠ (v133 : Value).ownBlock) (fun k_ => ((fun k_ => ((P0_ k_ ∨ P1_ k_) ∨ w.heap.size ≤ k_) ∧ some k_ ≠ (v133 : Value).ownBlock)) k_ ∧ some k_ ≠ (v122 : Value).ownBlock) rfl rfl ?aO ?aR (fun _ hk => hk) ?aF ?aB ?aS ?aL ?_
           (case aR => exact (by skip; exact Kd.V_F (by (with_reducible repeat (first | apply Kd.V_alloc | apply Kd.V_drewN | apply Kd.V_drew)); exact Kd.V_mono (ok' := (fun k_ => ((fun k_ => ((P0_ k_ ∨ P1_ k_) ∨ w.heap.size ≤ k_) ∧ some k_ ≠ (v133 : Value).ownBlock)) k_ ∧ some k_ ≠ (v122 : Value).ownBlock)) (HO128.out) (fun k_ hk => ⟨⟨hk.1.1, hk.1.2⟩, hk.2⟩))))
           (case aB => exact (zB HB))
           (case aF => exact (fun k_ hk => ⟨(.inr (Nat.le_trans (below_size (zB HB)) hk)), Kd.fresh' (Kd.N_lt (zN HO134)) k_ hk⟩))
           (case aO => exact (zN HO123))
           (case aS => exact (below_size (zB HB)))
           (case aL => have := LMc11.out; omega)
           intro v130 w23 ho hb hg hat
           rw [← Ny129.out] at ho
           have n0_ := zk (Kd.V_afterv (ok := (fun k_ => ((P0_ k_ ∨ P1_ k_) ∨ w.heap.size ≤ k_) ∧ some k_ ≠ (v133 : Value).ownBlock)) (zV HO_0) hg hat)
           have n1_ := zk (Kd.V_afterv (ok := (fun k_ => ((P0_ k_ ∨ P1_ k_) ∨ w.heap.size ≤ k_) ∧ some k_ ≠ (v133 : Value).ownBlock)) (zV HO_1) hg hat)
           have n2_ := zk (Kd.V_afterv (ok := (fun k_ => ((P0_ k_ ∨ P1_ k_) ∨ w.heap.size ≤ k_) ∧ some k_ ≠ (v133 : Value).ownBlock)) (zV HL117_0) hg hat)
           have n3_ := zk (Kd.V_afterv (ok := (fun k_ => ((P0_ k_ ∨ P1_ k_) ∨ w.heap.size ≤ k_) ∧ some k_ ≠ (v133 : Value).ownBlock)) (zV HL119_0) hg hat)
           have n4_ := zk (Kd.V_afterv (ok := (fun k_ => ((P0_ k_ ∨ P1_ k_) ∨ w.heap.size ≤ k_) ∧ some k_ ≠ (v133 : Value).ownBlock)) (zV HO128) hg hat)
           have n5_ := zk (Kd.V_afterv (ok := (fun k_ => ((P0_ k_ ∨ P1_ k_) ∨ w.heap.size ≤ k_) ∧ some k_ ≠ (v133 : Value).ownBlock)) (zV HO142) hg hat)
           have n6_ := zk (Kd.N_afterv (ok := (fun k_ => ((P0_ k_ ∨ P1_ k_) ∨ w.heap.size ≤ k_))) (zN HO134) hg hat)
           have n7_ := zk (hb)
           have n8_ := zk (ho)
           clear HO_0
           clear HO_1
           clear HL117_0
           clear HL119_0
           clear HO128
           clear HO142
           clear HO134
           clear HB
           clear HO123
           have HO_0 := n0_
           have HO_1 := n1_
           have HL117_0 := n2_
           have HL119_0 := n3_
           have HO128 := n4_
           have HO142 := n5_
           have HO134 := n6_
           have HB := n7_
           have HO131 := n8_
           clear n0_ n1_ n2_ n3_ n4_ n5_ n6_ n7_ n8_
           clear ho hb hg hat
           refine hK.out _ _ trivial (fun hHeld => ?_)
           clear hK K
           refine zM 37 ?_
           exact norm_ (by simp only [putAll, Act.put, List.setIfInBounds_toArray, List.set_cons_zero, List.set_cons_succ]) (hCont (v122, v130, v133) _ ⟨(by (with_reducible repeat (first | apply Kd.V_alloc | apply Kd.V_drewN | apply Kd.V_drew)); exact Kd.V_mono HL117_0.out (fun _ hk => ⟨hk.1.1, ⟨hk.2, hk.1.2⟩⟩)), (by (with_reducible repeat (first | apply Kd.V_alloc | apply Kd.V_drewN | apply Kd.V_drew)); exact Kd.V_mono HL119_0.out (fun _ hk => ⟨hk.1.1, ⟨hk.2, hk.1.2⟩⟩)), (by (with_reducible repeat (first | apply Kd.V_alloc | apply Kd.V_drewN | apply Kd.V_drew)); exact Kd.V_mono HO128.out (fun _ hk => ⟨hk.1.1, ⟨hk.2, hk.1.2⟩⟩)), (zN HO131), (zN HO134), (by (with_reducible repeat (first | apply Kd.V_alloc | apply Kd.V_drewN | apply Kd.V_drew)); exact Kd.V_mono HO142.out (fun _ hk => ⟨hk.1.1, ⟨hk.2, hk.1.2⟩⟩)), (by (with_reducible repeat (first | apply Kd.V_alloc | apply Kd.V_drewN | apply Kd.V_drew)); exact Kd.V_mono HO_0.out (fun _ hk => ⟨hk.1.1, ⟨hk.2, hk.1.2⟩⟩)), (by (with_reducible repeat (first | apply Kd.V_alloc | apply Kd.V_drewN | apply Kd.V_drew)); exact Kd.V_mono HO_1.out (fun _ hk => ⟨hk.1.1, ⟨hk.2, hk.1.2⟩⟩)), (zB HB)⟩)
       rintro ⟨v122, v130, v133⟩ w24 ⟨h0_, h1_, h2_, h3_, h4_, h5_, h6_, h7_, h8_⟩
       have n0_ : Aside0 (Kd.V (Kd.int .i64) 3 w24 w.heap.size (fun k_ => ((P0_ k_ ∨ P1_ k_) ∨ w.heap.size ≤ k_) ∧ some k_ ≠ (v130 : Value).ownBlock ∧ some k_ ≠ (v133 : Value).ownBlock) (.slice A117_0 (rd_L1 l0 x5_1).length c117_0) (rd_L1 l0 x5_1)) := ⟨h0_⟩
       have n1_ : Aside0 (Kd.V (Kd.int .i64) 3 w24 w.heap.size (fun k_ => ((P0_ k_ ∨ P1_ k_) ∨ w.heap.size ≤ k_) ∧ some k_ ≠ (v130 : Value).ownBlock ∧ some k_ ≠ (v133 : Value).ownBlock) (.slice A117_0 (rd_L1 l0 x5_1).length c117_0) (rd_L1 l0 x5_1)) := ⟨h1_⟩
       have n2_ : Aside0 (Kd.V (Kd.slice 3 (Kd.int .i64)) 22 w24 w.heap.size (fun k_ => ((P0_ k_ ∨ P1_ k_) ∨ w.heap.size ≤ k_) ∧ some k_ ≠ (v130 : Value).ownBlock ∧ some k_ ≠ (v133 : Value).ownBlock) (.slice (some ad117) y124.length c0) y124) := ⟨h2_⟩
       have n3_ : Aside0 (Kd.N (Kd.slice 3 (Kd.int .i64)) 22 w24 w.heap.size (fun k_ => ((P0_ k_ ∨ P1_ k_) ∨ w.heap.size ≤ k_) ∧ some k_ ≠ (v133 : Value).ownBlock) v130 y129) := ⟨h3_⟩
       have n4_ : Aside0 (Kd.N (Kd.slice 3 (Kd.int .i64)) 22 w24 w.heap.size (fun k_ => ((P0_ k_ ∨ P1_ k_) ∨ w.heap.size ≤ k_) ∧ some k_ ≠ (v130 : Value).ownBlock) v133 y132) := ⟨h4_⟩
       have n5_ : Aside0 (Kd.V (Kd.slice 3 (Kd.int .i64)) 22 w24 w.heap.size (fun k_ => ((P0_ k_ ∨ P1_ k_) ∨ w.heap.size ≤ k_) ∧ some k_ ≠ (v130 : Value).ownBlock ∧ some k_ ≠ (v133 : Value).ownBlock) (.slice A18 y138.length c18) y138) := ⟨h5_⟩
       have n6_ : Aside0 (Kd.V (Kd.slice 3 (Kd.int .i64)) 22 w24 w.heap.size (fun k_ => ((P0_ k_ ∨ P1_ k_) ∨ w.heap.size ≤ k_) ∧ some k_ ≠ (v130 : Value).ownBlock ∧ some k_ ≠ (v133 : Value).ownBlock) (.slice (some ad117) l0.length c0) l0) := ⟨h6_⟩
       have n7_ : Aside0 (Kd.V (Kd.int .i64) 3 w24 w.heap.size (fun k_ => ((P0_ k_ ∨ P1_ k_) ∨ w.heap.size ≤ k_) ∧ some k_ ≠ (v130 : Value).ownBlock ∧ some k_ ≠ (v133 : Value).ownBlock) (.slice A1 l1.length c1) l1) := ⟨h7_⟩
       have n8_ : Aside0 (Below w.heap.size w w24) := ⟨h8_⟩
       clear HO_0
       clear HO_1
       clear HL117_0
       clear HL119_0
       clear HR117_0
       clear HR119_0
       clear HB
       clear h0_ h1_ h2_ h3_ h4_ h5_ h6_ h7_ h8_
       have HL117_0 := n0_
       have HL119_0 := n1_
       have HO128 := n2_
       have HO131 := n3_
       have HO134 := n4_
       have HO142 := n5_
       have HO_0 := n6_
       have HO_1 := n7_
       have HB := n8_
       clear n0_ n1_ n2_ n3_ n4_ n5_ n6_ n7_ n8_
       have hHeld := trivial
       obtain ⟨Ao26, co26, eo26⟩ := Kd.N_slice HO134.out
       (first | subst eo26 | (injection eo26 with f1_ f2_ f3_; have f4_ := f1_.symm; have f5_ := f3_.symm; clear f1_ f2_ f3_; subst f4_; subst f5_))
       refine norm_ (a' := ?_) ?_ ?_
       rotate_left
       · simp only [putAll, Act.put, List.setIfInBounds_toArray, List.set_cons_zero, List.set_cons_succ]
         rfl
       refine one_ (i := 7) (N := some 40) #[true, true, true, true, true, true, true, true, true, true, true, false, false] rfl rfl (one_of HT_.out (by kernel_rfl)) (by decide) (fun K hK => ?_)
       refine Kd.N_append_rows_step (Kd.slice 3 (Kd.int .i64)) (w0 := w) w.heap.size (by rfl) (.tmp 37) (.tmp 39) 28 22 (.slice none 0 0) 24 rfl Try.underlying28 info22 rfl (by decide) (by omega) v130 y129 y132 _ _ _ (fun k_ => ((P0_ k_ ∨ P1_ k_) ∨ w.heap.size ≤ k_)) (fun k_ => ((fun k_ => ((P0_ k_ ∨ P1_ k_) ∨ w.heap.size ≤ k_))) k_ ∧ some k_ ≠ (v130 : Value).ownBlock) rfl rfl ?aO ?aR (fun _ hk => hk) ?aF ?aB ?aS ?aL ?_
       (case aR => exact (by skip; exact Kd.N_F (Kd.N_mono (ok' := (fun k_ => ((fun k_ => ((P0_ k_ ∨ P1_ k_) ∨ w.heap.size ≤ k_))) k_ ∧ some k_ ≠ (v130 : Value).ownBlock)) (HO134.out) (fun k_ hk => ⟨hk.1, hk.2⟩))))
       (case aB => exact (zB HB))
       (case aF => exact (fun k_ hk => (.inr (Nat.le_trans (below_size (zB HB)) hk))))
       (case aO => exact (by (with_reducible repeat (first | apply Kd.N_alloc | apply Kd.N_drewN | apply Kd.N_drew)); exact Kd.N_mono HO131.out (fun _ hk => hk.1)))
       (case aS => exact (below_size (zB HB)))
       (case aL => have := LMc12.out; omega)
       intro v136 w25 ho hb hg hat
       rw [← Ny135.out] at ho
       have n0_ := zk (Kd.V_afterv (ok := (fun k_ => ((P0_ k_ ∨ P1_ k_) ∨ w.heap.size ≤ k_) ∧ some k_ ≠ (.slice Ao26 y132.length co26 : Value).ownBlock)) (by (with_reducible repeat (first | apply Kd.V_alloc | apply Kd.V_drewN | apply Kd.V_drew)); first | exact Kd.V_mono HO_0.out (fun _ hk => ⟨⟨hk.1, hk.2.2⟩, hk.2.1⟩) | exact Kd.V_mono HO_0.out (fun k_ hk => by (have own_ : ∀ (A : Option Addr) (n c : Nat), (Value.slice A n c).ownBlock = A.map Addr.block := fun A n c => by cases A <;> rfl); simp only [own_] at hk ⊢; exact ⟨⟨hk.1, hk.2.2⟩, hk.2.1⟩)) hg hat)
       have n1_ := zk (Kd.V_afterv (ok := (fun k_ => ((P0_ k_ ∨ P1_ k_) ∨ w.heap.size ≤ k_) ∧ some k_ ≠ (.slice Ao26 y132.length co26 : Value).ownBlock)) (by (with_reducible repeat (first | apply Kd.V_alloc | apply Kd.V_drewN | apply Kd.V_drew)); first | exact Kd.V_mono HO_1.out (fun _ hk => ⟨⟨hk.1, hk.2.2⟩, hk.2.1⟩) | exact Kd.V_mono HO_1.out (fun k_ hk => by (have own_ : ∀ (A : Option Addr) (n c : Nat), (Value.slice A n c).ownBlock = A.map Addr.block := fun A n c => by cases A <;> rfl); simp only [own_] at hk ⊢; exact ⟨⟨hk.1, hk.2.2⟩, hk.2.1⟩)) hg hat)
       have n2_ := zk (Kd.V_afterv (ok := (fun k_ => ((P0_ k_ ∨ P1_ k_) ∨ w.heap.size ≤ k_) ∧ some k_ ≠ (.slice Ao26 y132.length co26 : Value).ownBlock)) (by (with_reducible repeat (first | apply Kd.V_alloc | apply Kd.V_drewN | apply Kd.V_drew)); exact Kd.V_mono HL117_0.out (fun _ hk => ⟨⟨hk.1, hk.2.2⟩, hk.2.1⟩)) hg hat)
       have n3_ := zk (Kd.V_afterv (ok := (fun k_ => ((P0_ k_ ∨ P1_ k_) ∨ w.heap.size ≤ k_) ∧ some k_ ≠ (.slice Ao26 y132.length co26 : Value).ownBlock)) (by (with_reducible repeat (first | apply Kd.V_alloc | apply Kd.V_drewN | apply Kd.V_drew)); exact Kd.V_mono HL119_0.out (fun _ hk => ⟨⟨hk.1, hk.2.2⟩, hk.2.1⟩)) hg hat)
       have n4_ := zk (Kd.V_afterv (ok := (fun k_ => ((P0_ k_ ∨ P1_ k_) ∨ w.heap.size ≤ k_) ∧ some k_ ≠ (.slice Ao26 y132.length co26 : Value).ownBlock)) (by (with_reducible repeat (first | apply Kd.V_alloc | apply Kd.V_drewN | apply Kd.V_drew)); first | exact Kd.V_mono HO128.out (fun _ hk => ⟨⟨hk.1, hk.2.2⟩, hk.2.1⟩) | exact Kd.V_mono HO128.out (fun k_ hk => by (have own_ : ∀ (A : Option Addr) (n c : Nat), (Value.slice A n c).ownBlock = A.map Addr.block := fun A n c => by cases A <;> rfl); simp only [own_] at hk ⊢; exact ⟨⟨hk.1, hk.2.2⟩, hk.2.1⟩)) hg hat)
       have n5_ := zk (Kd.V_afterv (ok := (fun k_ => ((P0_ k_ ∨ P1_ k_) ∨ w.heap.size ≤ k_) ∧ some k_ ≠ (.slice Ao26 y132.length co26 : Value).ownBlock)) (by (with_reducible repeat (first | apply Kd.V_alloc | apply Kd.V_drewN | apply Kd.V_drew)); first | exact Kd.V_mono HO142.out (fun _ hk => ⟨⟨hk.1, hk.2.2⟩, hk.2.1⟩) | exact Kd.V_mono HO142.out (fun k_ hk => by (have own_ : ∀ (A : Option Addr) (n c : Nat), (Value.slice A n c).ownBlock = A.map Addr.block := fun A n c => by cases A <;> rfl); simp only [own_] at hk ⊢; exact ⟨⟨hk.1, hk.2.2⟩, hk.2.1⟩)) hg hat)
       have n6_ := zk (Kd.N_afterv (ok := (fun k_ => ((P0_ k_ ∨ P1_ k_) ∨ w.heap.size ≤ k_))) (zN HO134) hg hat)
       have n7_ := zk (hb)
       have n8_ := zk (ho)
       clear HO_0
       clear HO_1
       clear HL117_0
       clear HL119_0
       clear HO128
       clear HO142
       clear HO134
       clear HB
       clear HO131
       have HO_0 := n0_
       have HO_1 := n1_
       have HL117_0 := n2_
       have HL119_0 := n3_
       have HO128 := n4_
       have HO142 := n5_
       have HO134 := n6_
       have HB := n7_
       have HO137 := n8_
       clear n0_ n1_ n2_ n3_ n4_ n5_ n6_ n7_ n8_
       clear ho hb hg hat
       refine hK.out _ _ trivial (fun hHeld => ?_)
       clear hK K
       refine zM 40 ?_
       refine one_ (i := 11) (N := some 44) #[true, true, true, true, true, true, true, true, true, true, true, true, false] rfl rfl (one_of HT_.out (by kernel_rfl)) (by decide) (fun K hK => ?_)
       refine Kd.N_append_rows_step (Kd.slice 3 (Kd.int .i64)) (w0 := w) w.heap.size (by rfl) (.tmp 40) (.tmp 43) 28 22 (.slice none 0 0) 24 rfl Try.underlying28 info22 rfl (by decide) (by omega) v136 y135 y138 _ _ _ (fun k_ => ((P0_ k_ ∨ P1_ k_) ∨ w.heap.size ≤ k_)) (fun k_ => ((fun k_ => ((P0_ k_ ∨ P1_ k_) ∨ w.heap.size ≤ k_))) k_ ∧ some k_ ≠ (v136 : Value).ownBlock) rfl rfl ?aO ?aR (fun _ hk => hk) ?aF ?aB ?aS ?aL ?_
       (case aR => exact (by skip; exact Kd.V_F (by (with_reducible repeat (first | apply Kd.V_alloc | apply Kd.V_drewN | apply Kd.V_drew)); exact Kd.V_mono (ok' := (fun k_ => ((fun k_ => ((P0_ k_ ∨ P1_ k_) ∨ w.heap.size ≤ k_))) k_ ∧ some k_ ≠ (v136 : Value).ownBlock)) (HO142.out) (fun k_ hk => ⟨hk.1.1, hk.2⟩))))
       (case aB => exact (zB HB))
       (case aF => exact (fun k_ hk => (.inr (Nat.le_trans (below_size (zB HB)) hk))))
       (case aO => exact (zN HO137))
       (case aS => exact (below_size (zB HB)))
       (case aL => have := LMc15.out; omega)
       intro v144 w27 ho hb hg hat
       rw [← Ny143.out] at ho
       have n0_ := zk (Kd.V_afterv (ok := (fun k_ => ((P0_ k_ ∨ P1_ k_) ∨ w.heap.size ≤ k_) ∧ some k_ ≠ (.slice Ao26 y132.length co26 : Value).ownBlock)) (zV HO_0) hg hat)
       have n1_ := zk (Kd.V_afterv (ok := (fun k_ => ((P0_ k_ ∨ P1_ k_) ∨ w.heap.size ≤ k_) ∧ some k_ ≠ (.slice Ao26 y132.length co26 : Value).ownBlock)) (zV HO_1) hg hat)
       have n2_ := zk (Kd.V_afterv (ok := (fun k_ => ((P0_ k_ ∨ P1_ k_) ∨ w.heap.size ≤ k_) ∧ some k_ ≠ (.slice Ao26 y132.length co26 : Value).ownBlock)) (zV HL117_0) hg hat)
       have n3_ := zk (Kd.V_afterv (ok := (fun k_ => ((P0_ k_ ∨ P1_ k_) ∨ w.heap.size ≤ k_) ∧ some k_ ≠ (.slice Ao26 y132.length co26 : Value).ownBlock)) (zV HL119_0) hg hat)
       have n4_ := zk (Kd.V_afterv (ok := (fun k_ => ((P0_ k_ ∨ P1_ k_) ∨ w.heap.size ≤ k_) ∧ some k_ ≠ (.slice Ao26 y132.length co26 : Value).ownBlock)) (zV HO128) hg hat)
       have n5_ := zk (Kd.V_afterv (ok := (fun k_ => ((P0_ k_ ∨ P1_ k_) ∨ w.heap.size ≤ k_) ∧ some k_ ≠ (.slice Ao26 y132.length co26 : Value).ownBlock)) (zV HO142) hg hat)
       have n6_ := zk (Kd.N_afterv (ok := (fun k_ => ((P0_ k_ ∨ P1_ k_) ∨ w.heap.size ≤ k_))) (zN HO134) hg hat)
       have n7_ := zk (hb)
       have n8_ := zk (ho)
       clear HO_0
       clear HO_1
       clear HL117_0
       clear HL119_0
       clear HO128
       clear HO142
       clear HO134
       clear HB
       clear HO137
       have HO_0 := n0_
       have HO_1 := n1_
       have HL117_0 := n2_
       have HL119_0 := n3_
       have HO128 := n4_
       have HO142 := n5_
       have HO134 := n6_
       have HB := n7_
       have HO145 := n8_
       clear n0_ n1_ n2_ n3_ n4_ n5_ n6_ n7_ n8_
       clear ho hb hg hat
       refine hK.out _ _ trivial (fun hHeld => ?_)
       clear hK K
       refine zM 44 ?_
       refine pure_ (i := 12) (N := some 4) (v := ?_) (a' := ?_) #[true, true, true, true, true, true, true, true, true, true, true, true, true] rfl rfl (any_of HT_.out (by kernel_rfl)) (fun _ _ _ h => h) (Or.inl ⟨by rfl, ?_⟩) ?_ ?_
       rotate_left
       · intro w'
         go_simp
         with_reducible rfl
       rotate_left
       · exact zQ
       refine done_ (done_of HT_.out (by kernel_rfl)) ?_
       try go_wp2
       go_ret
       exact ⟨_, by first | rfl | (simp [errW_none, errW_some] <;> rfl) | (simp [*, errW_none, errW_some] <;> rfl), Kd.N_V (zN HO145), by repeat (first | exact HB.out | apply za | apply zd | apply ze)⟩
     subst c8
     have H1 : (some l0) = some r := by rw [if_pos rfl] at H; exact H
     clear H
     have H := H1
     clear H1
     obtain rfl := Option.some.inj H
     have p117 : 0 ≤ (x5_1 : Int) := zo (by assumption)
     have q117 : x5_1 < (l0.length : Int) := zo (by assumption)
     obtain ⟨ad117, A117_0, c117_0, e117, hx117_0, hl117_0, hi117_0⟩ := at_L1 (Kd.V_reads' HO_0.out).2.2 x5_1 p117 q117
     cases e117
     obtain ⟨ce117, hce117, hMe117, hcc117⟩ := Kd.V_get HO_0.out [] x5_1 p117 (by first | exact q117 | exact zo (by assumption) | (have e_ := (Kd.V_reads' HO_0.out).1; omega))
     obtain ⟨ua117_0, uc117_0, rfl, ul117_0, ge117_0⟩ := Kd.FK_slice_open hMe117
     have hv117_0 := hcc117 0 _ rfl
     rw [Nat.add_zero, show ((Kd.slice 3 (Kd.int .i64))).sz = 1 from rfl, Nat.mul_one] at hv117_0
     replace hv117_0 := Option.some.inj (hv117_0.symm.trans hx117_0)
     injection hv117_0 with hva_ hvn_ hvc_
     rw [hva_] at ge117_0
     rw [hvc_] at ul117_0
     have HL117_0 := zk (show Kd.V (Kd.int .i64) 3 _ w.heap.size _ _ (rd_L1 l0 x5_1) from Kd.V_mk ul117_0 ge117_0)
     clear hva_ hvn_ hvc_ ge117_0 ul117_0
     clear hcc117 hce117
     have HR117_0 := zk hi117_0
     have HC117_0 := zk hl117_0
     clear hi117_0 hl117_0
     replace p117 := eq_true p117
     replace q117 := eq_true q117
     go_wp2_with (first | (go_at_call 227; (with_reducible refine (spec_l2Before.calls k1 _ _ (rd_L1 l0 x5_1) _ _ l1 false _ ?side1 ?side2 ?side3 ?side4 A5.out).mono ?_); (case side1 => exact zC HR117_0.out); (case side2 => exact HC117_0.out); (case side3 => exact zC (Kd.V_reads' HO_1.out).2.2); (case side4 => exact (Kd.V_reads' HO_1.out).2.1); rintro e w' ⟨rfl, ⟨nd, rfl⟩⟩; have p119 : 0 ≤ (x5_1 : Int) := zo (by assumption); have q119 : x5_1 < (l0.length : Int) := zo (by assumption); obtain ⟨ad119, A119_0, c119_0, e119, hx119_0, hl119_0, hi119_0⟩ := at_L1 (Kd.V_reads' HO_0.out).2.2 x5_1 p119 q119; obtain rfl : ad117 = ad119 := (by injection e119); obtain ⟨ce119, hce119, hMe119, hcc119⟩ := Kd.V_get HO_0.out [] x5_1 p119 (by first | exact q119 | exact zo (by assumption) | (have e_ := (Kd.V_reads' HO_0.out).1; omega)); obtain ⟨ua119_0, uc119_0, rfl, ul119_0, ge119_0⟩ := Kd.FK_slice_open hMe119; have hv119_0 := hcc119 0 _ rfl; rw [Nat.add_zero, show ((Kd.slice 3 (Kd.int .i64))).sz = 1 from rfl, Nat.mul_one] at hv119_0; replace hv119_0 := Option.some.inj (hv119_0.symm.trans hx119_0); injection hv119_0 with hva_ hvn_ hvc_; rw [hva_] at ge119_0; rw [hvc_] at ul119_0; have HL119_0 := zk (show Kd.V (Kd.int .i64) 3 _ w.heap.size _ _ (rd_L1 l0 x5_1) from Kd.V_mk ul119_0 ge119_0); clear hva_ hvn_ hvc_ ge119_0 ul119_0; clear hcc119 hce119; have HR119_0 := zk hi119_0; have HC119_0 := zk hl119_0; clear hi119_0 hl119_0; replace p119 := eq_true p119; replace q119 := eq_true q119; have ea_ := Option.some.inj (hx117_0.symm.trans hx119_0); injection ea_ with ea_ en_ ec_; subst ea_; subst ec_; clear en_) | (go_at_call 170; (with_reducible refine (spec_l1Same.calls k1 _ _ (rd_L1 l0 x5_1) _ _ l1 true _ ?side1 ?side2 ?side3 ?side4 A7.out).mono ?_); (case side1 => exact zC HR119_0.out); (case side2 => exact HC119_0.out); (case side3 => exact zC (Kd.V_reads' HO_1.out).2.2); (case side4 => exact (Kd.V_reads' HO_1.out).2.1); rintro e w' ⟨rfl, ⟨nd, rfl⟩⟩))
     go_ret
     exact ⟨_, by first | rfl | (simp [errW_none, errW_some] <;> rfl) | (simp [*, errW_none, errW_some] <;> rfl), by (with_reducible repeat (first | apply Kd.V_alloc | apply Kd.V_drewN | apply Kd.V_drew)); exact HO_0.out, by repeat (first | exact HB.out | apply za | apply zd | apply ze)⟩
   subst c6
   have H1 : (spec_l2PutOrder.l0 k1 l0 l1 (wrap64 (x5_1 + 1))) = some r := by rw [if_pos rfl] at H; exact H
   clear H
   have H := H1
   clear H1
   have H' := zk H
   clear H
   have p117 : 0 ≤ (x5_1 : Int) := zo (by assumption)
   have q117 : x5_1 < (l0.length : Int) := zo (by assumption)
   obtain ⟨ad117, A117_0, c117_0, e117, hx117_0, hl117_0, hi117_0⟩ := at_L1 (Kd.V_reads' HO_0.out).2.2 x5_1 p117 q117
   cases e117
   obtain ⟨ce117, hce117, hMe117, hcc117⟩ := Kd.V_get HO_0.out [] x5_1 p117 (by first | exact q117 | exact zo (by assumption) | (have e_ := (Kd.V_reads' HO_0.out).1; omega))
   obtain ⟨ua117_0, uc117_0, rfl, ul117_0, ge117_0⟩ := Kd.FK_slice_open hMe117
   have hv117_0 := hcc117 0 _ rfl
   rw [Nat.add_zero, show ((Kd.slice 3 (Kd.int .i64))).sz = 1 from rfl, Nat.mul_one] at hv117_0
   replace hv117_0 := Option.some.inj (hv117_0.symm.trans hx117_0)
   injection hv117_0 with hva_ hvn_ hvc_
   rw [hva_] at ge117_0
   rw [hvc_] at ul117_0
   have HL117_0 := zk (show Kd.V (Kd.int .i64) 3 _ w.heap.size _ _ (rd_L1 l0 x5_1) from Kd.V_mk ul117_0 ge117_0)
   clear hva_ hvn_ hvc_ ge117_0 ul117_0
   clear hcc117 hce117
   have HR117_0 := zk hi117_0
   have HC117_0 := zk hl117_0
   clear hi117_0 hl117_0
   replace p117 := eq_true p117
   replace q117 := eq_true q117
   go_wp2_with (first | (go_at_call 227; (with_reducible refine (spec_l2Before.calls k1 _ _ (rd_L1 l0 x5_1) _ _ l1 true _ ?side1 ?side2 ?side3 ?side4 A5.out).mono ?_); (case side1 => exact zC HR117_0.out); (case side2 => exact HC117_0.out); (case side3 => exact zC (Kd.V_reads' HO_1.out).2.2); (case side4 => exact (Kd.V_reads' HO_1.out).2.1); rintro e w' ⟨rfl, ⟨nd, rfl⟩⟩))
   go_roundg k1
   case measure => have := HK1.out; omega
   case rel => exact ⟨(wrap64 (x5_1 + 1)), (by first | rfl | (simp; done) | (simp [*]; done)), H', ⟨by have := HK1.out; omega⟩, ⟨by (with_reducible repeat (first | apply Kd.V_alloc | apply Kd.V_drewN | apply Kd.V_drew)); exact HO_0.out⟩, ⟨by (with_reducible repeat (first | apply Kd.V_alloc | apply Kd.V_drewN | apply Kd.V_drew)); exact HO_1.out⟩, ⟨by repeat (first | exact HB.out | apply za | apply zd | apply ze)⟩⟩

end Go.Proofs.Ytlkddcabjcejdaa.MFnContained
