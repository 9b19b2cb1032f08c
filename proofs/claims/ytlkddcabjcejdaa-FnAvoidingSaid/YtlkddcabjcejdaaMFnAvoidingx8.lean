/- Functions that FnAvoiding comes to, a walk for each: by wip/tools/mk.py and post.py. No condition. -/
import Derived.Test.YtlkddcabjcejdaaMFnAvoidingx0
import Derived.Test.YtlkddcabjcejdaaMFnAvoidingx1
import Derived.Test.YtlkddcabjcejdaaMFnAvoidingx7
namespace Go.Proofs.Ytlkddcabjcejdaa.MFnAvoiding
open Go.RowKit Go.Proofs.YtlkddcabjcejdaaW.PrintWords Go.Proofs.YtlkddcabjcejdaaW.PrintLast Go.Proofs.YtlkddcabjcejdaaW.PrintMore
attribute [local go_sem] max2_int min2_int max_two min_two max_three min_three max_four min_four
set_option linter.unusedVariables false
set_option linter.unusedSimpArgs false

/-! ### spec_l3Goes: function 265 -/
mutual
def spec_l3Goes.j0 : Nat → List Int → List Int → List Int → Int → Bool → Option (Bool)
 | 0, _, _, _, _, _ => none
 | k + 1, x0, x1, x2, x3, x23 => if x23 = true then (some false) else (if (x2.length : Int) = (x1.length : Int) then (some true) else (spec_l3Goes.l0 k x0 x1 x2 x3))
def spec_l3Goes.l0 : Nat → List Int → List Int → List Int → Int → Option (Bool)
 | 0, _, _, _, _ => none
 | k + 1, x0, x1, x2, x9 => if x9 < (x0.length : Int) then ((spec_l1Own.f x2).bind fun t369 => (if 0 ≤ x9 then ((some (([rd x0 x9] : List Int) : List Int)).bind fun y373 => (if t369.length + y373.length < 17592186044416 then ((spec_l3Goes.f k x0 x1 (t369 ++ y373) (wrap64 (x9 + 1))).bind fun t379 => (if t379 = true then (some true) else (spec_l3Goes.l0 k x0 x1 x2 (wrap64 (x9 + 1))))) else (none))) else (none))) else (some false)
def spec_l3Goes.f : Nat → List Int → List Int → List Int → Int → Option (Bool)
 | 0, _, _, _, _ => none
 | k + 1, l0, l1, l2, a3 => if (l2.length : Int) > 0 then ((spec_l3Shape.f k l2).bind fun t358 => (if 0 ≤ (l2.length : Int) then (if (l2.length : Int) ≤ (l1.length : Int) then ((spec_l3Shape.f k (l1.take ((l2.length : Int) : Int).toNat)).bind fun t365 => ((spec_l1Same.f k t358 t365).bind fun t368 => (spec_l3Goes.j0 k l0 l1 l2 a3 (!t368)))) else (none)) else (none))) else (spec_l3Goes.j0 k l0 l1 l2 a3 false)
end
def spec_l3Goes.T1 : Bool × List (List Nat × List Nat) := (true, [([], []), ([0], [0]), ([1], [1]), ([2], [2]), ([3], [3]), ([4, 3, 3], [3, 4]), ([3], [3]), ([3], [3]), ([7, 3], [3, 7]), ([6, 8, 3], [3, 6, 8]), ([9, 5, 3], [3, 9]), ([5, 10, 10, 3], [3, 5, 10]), ([11, 3], [3, 11]), ([3, 12], [3, 12])])
def spec_l3Goes.B1 : List Nat := [0, 1, 3, 7, 15, 31, 15, 15, 143, 463, 1023, 2047, 4095, 8191]
theorem spec_l3Goes.tab1 : rtab .any (opsOf Try.f265 1) = spec_l3Goes.T1 := by kernel_rfl
theorem spec_l3Goes.bits1 : waitsOk spec_l3Goes.T1.2 spec_l3Goes.B1 = true := by kernel_rfl
def spec_l3Goes.T8 : Bool × List (List Nat × List Nat) := (true, [([], []), ([], []), ([], []), ([2], [2]), ([], []), ([], []), ([4, 5], [4, 5]), ([6], [6]), ([7], [7]), ([3, 8, 3], [3, 8]), ([], []), ([10], [10]), ([0, 1, 9, 11, 9], [0, 1, 9, 11])])
def spec_l3Goes.B8 : List Nat := [0, 0, 0, 4, 0, 0, 48, 112, 240, 508, 0, 1024, 4095]
theorem spec_l3Goes.tab8 : rtab .any (opsOf Try.f265 8) = spec_l3Goes.T8 := by kernel_rfl
theorem spec_l3Goes.bits8 : waitsOk spec_l3Goes.T8.2 spec_l3Goes.B8 = true := by kernel_rfl
set_option maxHeartbeats 8000000 in
set_option maxRecDepth 100000 in
theorem spec_l3Goes.calls (k : Nat) : ∀ (A0 : Option Addr) (c0 : Nat) (l0 : List Int) (A1 : Option Addr) (c1 : Nat) (l1 : List Int) (A2 : Option Addr) (c2 : Nat) (l2 : List Int) (a3 : Int) (r : Bool) (w : World) (hr0 : Kd.C (Kd.int .i64) w A0 l0.length l0) (hc0 : l0.length ≤ c0) (hr1 : Kd.C (Kd.int .i64) w A1 l1.length l1) (hc1 : l1.length ≤ c1) (hr2 : Kd.C (Kd.int .i64) w A2 l2.length l2) (hc2 : l2.length ≤ c2) (h : spec_l3Goes.f k l0 l1 l2 a3 = some r),
 Calls Try.prog 265 #[.slice A0 l0.length c0, .slice A1 l1.length c1, .slice A2 l2.length c2, .int .i64 a3] w fun e w' => e = .returned (.bool r) ∧ Below w.heap.size w w' := by
 induction k using Nat.strongRecOn with
 | _ k ih =>
 intro A0 c0 l0 A1 c1 l1 A2 c2 l2 a3 r w hr0 hc0 hr1 hc1 hr2 hc2 h
 cases k with
 | zero => exact absurd h (by simp [spec_l3Goes.f])
 | succ k =>
 simp only [spec_l3Goes.f] at h
 have HR0 := zk hr0
 have HC0 := zk hc0
 clear hr0 hc0
 have HR1 := zk hr1
 have HC1 := zk hc1
 clear hr1 hc1
 have HR2 := zk hr2
 have HC2 := zk hc2
 clear hr2 hc2
 have HB := zk (Below.refl w.heap.size w)
 have H : (if (l2.length : Int) > 0 then ((spec_l3Shape.f k l2).bind fun t358 => (if 0 ≤ (l2.length : Int) then (if (l2.length : Int) ≤ (l1.length : Int) then ((spec_l3Shape.f k (l1.take ((l2.length : Int) : Int).toNat)).bind fun t365 => ((spec_l1Same.f k t358 t365).bind fun t368 => (spec_l3Goes.j0 k l0 l1 l2 a3 (!t368)))) else (none)) else (none))) else (spec_l3Goes.j0 k l0 l1 l2 a3 false)) = some r := h
 clear h
 have HC5 := zk H
 clear H
 go_enter Try.func265, Try.ntmps265
 go_upto_region 1 with (fail)
 go_cut [23] (fun v23 wc => ∃ (kq : Nat) (x23_4 : Bool), v23 = .bool x23_4 ∧ Aside0 (spec_l3Goes.j0 kq l0 l1 l2 a3 x23_4 = some r) ∧ Aside0 (kq ≤ k) ∧ Aside0 (Below w.heap.size w wc))
 case first =>
  have H := HC5.out
  clear HC5
  by_cases c6 : (l2.length : Int) > 0
  rotate_left
  · rw [if_neg c6] at H
    have c6b0 := decide_eq_false c6
    have c6b1 : decide (0 < l2.length) = false := decide_eq_false (by omega)
    have c6b9 : ¬ (0 < l2.length) := by omega
    clear c6
    (first | rw [c6b0] | (simp only [i64_w, i32_w]; rw [c6b0]) | skip)
    have H' := zk H
    clear H
    try go_wp2
    have n0_ := zk (ze HB.out)
    clear HB
    have HB := n0_
    clear n0_
    refine start_ (n := 14) (S := fun w' => True) (ds := []) #[false, false, false, false, false, false, false, false, false, false, false, false, false, false] (by kernel_rfl) rfl rfl trivial (fun hHeld => ?_); refine with_tabW spec_l3Goes.tab1 spec_l3Goes.bits1 (fun HT_ HW_ => ?_)
    generalize w.drew = w18 at HB hHeld ⊢
    refine pure_ (i := 0) (N := some 10) (v := ?_) (a' := ?_) #[true, false, false, false, false, false, false, false, false, false, false, false, false, false] rfl rfl (any_of HT_.out (by kernel_rfl)) (fun _ _ _ h => h) (Or.inl ⟨by rfl, ?_⟩) ?_ ?_
    rotate_left
    · intro w'
      go_simp
      with_reducible rfl
    rotate_left
    · exact zQ
    refine pure_ (i := 1) (N := some 11) (v := ?_) (a' := ?_) #[true, true, false, false, false, false, false, false, false, false, false, false, false, false] rfl rfl (any_of HT_.out (by kernel_rfl)) (fun _ _ _ h => h) (Or.inl ⟨by rfl, ?_⟩) ?_ ?_
    rotate_left
    · intro w'
      go_simp
      with_reducible rfl
    rotate_left
    · exact zQ
    refine pure_ (i := 2) (N := some 12) (v := ?_) (a' := ?_) #[true, true, true, false, false, false, false, false, false, false, false, false, false, false] rfl rfl (any_of HT_.out (by kernel_rfl)) (fun _ _ _ h => h) (Or.inl ⟨by rfl, ?_⟩) ?_ ?_
    rotate_left
    · intro w'
      go_simp
      with_reducible rfl
    rotate_left
    · exact zQ
    refine pure_ (i := 3) (N := some 13) (v := ?_) (a' := ?_) #[true, true, true, true, false, false, false, false, false, false, false, false, false, false] rfl rfl (any_of HT_.out (by kernel_rfl)) (fun _ _ _ h => h) (Or.inl ⟨by rfl, ?_⟩) ?_ ?_
    rotate_left
    · intro w'
      go_simp
      with_reducible rfl
    rotate_left
    · exact zQ
    refine pure_ (i := 4) (N := some 14) (v := undef) (a' := ?_) #[true, true, true, true, true, false, false, false, false, false, false, false, false, false] rfl rfl (any_of HT_.out (by kernel_rfl)) (fun _ _ _ h => h) (Or.inr ⟨by rfl, rfl⟩) ?_ ?_
    rotate_left
    · exact zQ
    refine pure_ (i := 5) (N := some 15) (v := undef) (a' := ?_) #[true, true, true, true, true, true, false, false, false, false, false, false, false, false] rfl rfl (any_of HT_.out (by kernel_rfl)) (fun _ _ _ h => h) (Or.inr ⟨by rfl, rfl⟩) ?_ ?_
    rotate_left
    · exact zQ
    refine pure_ (i := 6) (N := some 16) (v := undef) (a' := ?_) #[true, true, true, true, true, true, true, false, false, false, false, false, false, false] rfl rfl (any_of HT_.out (by kernel_rfl)) (fun _ _ _ h => h) (Or.inr ⟨by rfl, rfl⟩) ?_ ?_
    rotate_left
    · exact zQ
    refine pure_ (i := 7) (N := some 17) (v := undef) (a' := ?_) #[true, true, true, true, true, true, true, true, false, false, false, false, false, false] rfl rfl (any_of HT_.out (by kernel_rfl)) (fun _ _ _ h => h) (Or.inr ⟨by rfl, rfl⟩) ?_ ?_
    rotate_left
    · exact zQ
    refine pure_ (i := 8) (N := some 18) (v := undef) (a' := ?_) #[true, true, true, true, true, true, true, true, true, false, false, false, false, false] rfl rfl (any_of HT_.out (by kernel_rfl)) (fun _ _ _ h => h) (Or.inr ⟨by rfl, rfl⟩) ?_ ?_
    rotate_left
    · exact zQ
    refine pure_ (i := 9) (N := some 19) (v := undef) (a' := ?_) #[true, true, true, true, true, true, true, true, true, true, false, false, false, false] rfl rfl (any_of HT_.out (by kernel_rfl)) (fun _ _ _ h => h) (Or.inr ⟨by rfl, rfl⟩) ?_ ?_
    rotate_left
    · exact zQ
    refine pure_ (i := 10) (N := some 20) (v := undef) (a' := ?_) #[true, true, true, true, true, true, true, true, true, true, true, false, false, false] rfl rfl (any_of HT_.out (by kernel_rfl)) (fun _ _ _ h => h) (Or.inr ⟨by rfl, rfl⟩) ?_ ?_
    rotate_left
    · exact zQ
    refine pure_ (i := 11) (N := some 21) (v := undef) (a' := ?_) #[true, true, true, true, true, true, true, true, true, true, true, true, false, false] rfl rfl (any_of HT_.out (by kernel_rfl)) (fun _ _ _ h => h) (Or.inr ⟨by rfl, rfl⟩) ?_ ?_
    rotate_left
    · exact zQ
    refine pure_ (i := 12) (N := some 22) (v := undef) (a' := ?_) #[true, true, true, true, true, true, true, true, true, true, true, true, true, false] rfl rfl (any_of HT_.out (by kernel_rfl)) (fun _ _ _ h => h) (Or.inr ⟨by rfl, rfl⟩) ?_ ?_
    rotate_left
    · exact zQ
    refine pure_ (i := 13) (N := some 23) (v := ?_) (a' := ?_) #[true, true, true, true, true, true, true, true, true, true, true, true, true, true] rfl rfl (any_of HT_.out (by kernel_rfl)) (fun _ _ _ h => h) (Or.inl ⟨by rfl, ?_⟩) ?_ ?_
    rotate_left
    · intro w'
      go_simp
      with_reducible rfl
    rotate_left
    · exact zQ
    refine done_ (done_of HT_.out (by kernel_rfl)) ?_
    try go_wp2
    go_meet
    case rel => exact ⟨_, (false), (by first | rfl | (simp; done) | (simp [*]; done)), H', ⟨by first | omega | exact Nat.le_refl _⟩, ⟨by repeat (first | exact HB.out | apply za | apply zd | apply ze)⟩⟩
  rw [if_pos c6] at H
  have c6b0 := decide_eq_true c6
  have c6b1 : decide (0 < l2.length) = true := decide_eq_true (by omega)
  have c6b9 : (0 < l2.length) := by omega
  clear c6
  (first | rw [c6b0] | (simp only [i64_w, i32_w]; rw [c6b0]) | skip)
  replace H := Option.bind_eq_some_iff.mp H
  obtain ⟨t358, A70, H⟩ := H
  try dsimp only at H
  have A7 := zk A70
  clear A70
  by_cases c8 : 0 ≤ (l2.length : Int)
  rotate_left
  · rw [if_neg c8] at H
    exact absurd H (by simp)
  rw [if_pos c8] at H
  have c8b0 := eq_true c8
  have c8b1 := decide_eq_true c8
  clear c8
  by_cases c9 : (l2.length : Int) ≤ (l1.length : Int)
  rotate_left
  · rw [if_neg c9] at H
    exact absurd H (by simp)
  rw [if_pos c9] at H
  have c9b0 := eq_true c9
  have c9b1 := decide_eq_true c9
  clear c9
  obtain ⟨y361, hy361⟩ : ∃ y_ : List Int, y_ = (l1.take ((l2.length : Int) : Int).toNat) := ⟨_, rfl⟩
  rw [← hy361] at H
  try rw [zO y361] at H
  try dsimp only at H
  have Ny361 := zk hy361
  clear hy361
  replace H := Option.bind_eq_some_iff.mp H
  obtain ⟨t365, A100, H⟩ := H
  try dsimp only at H
  have A10 := zk A100
  clear A100
  replace H := Option.bind_eq_some_iff.mp H
  obtain ⟨t368, A110, H⟩ := H
  try dsimp only at H
  have A11 := zk A110
  clear A110
  have H' := zk H
  clear H
  try go_wp2
  have n0_ := zk (ze HB.out)
  clear HB
  have HB := n0_
  clear n0_
  have q13 : ((l2.length : Int) : Int) ≤ ((l1.length : Int) : Int) := zo (by assumption)
  obtain ⟨i013, hi013, _, hsz13, _⟩ := info_parts info3
  have hroom13 : l1.length ≤ c1 := HC1.out
  have hC13 : Kd.C (Kd.int .i64) _ A1 l1.length l1 := HR1.out
  have hcut13 := cut_to (P := Try.prog) 22 3 .i64 Try.underlying22 hi013 A1 l1.length c1 (l2.length : Int) (zo (by assumption)) q13 hroom13
  have hr13 := Kd.C_take (m := ((l2.length : Int) : Int).toNat) hC13 (by omega)
  have hy13 : y361.length = ((l2.length : Int) : Int).toNat := (by rw [Ny361.out, List.length_take]; omega)
  rw [← Ny361.out] at hr13
  rw [← hy13] at hcut13
  have HR364 := zk hr13
  have HC364 := zk (show y361.length ≤ c1 from by omega)
  clear hr13 hC13 hroom13 hi013 hsz13
  have KY13 := zk hy13
  clear hy13
  replace q13 := eq_true q13
  refine start_ (n := 14) (S := fun w' => True) (ds := []) #[false, false, false, false, false, false, false, false, false, false, false, false, false, false] (by kernel_rfl) rfl rfl trivial (fun hHeld => ?_); refine with_tabW spec_l3Goes.tab1 spec_l3Goes.bits1 (fun HT_ HW_ => ?_)
  generalize w.drew = w12 at HB HR364 hHeld ⊢
  refine pure_ (i := 0) (N := some 10) (v := ?_) (a' := ?_) #[true, false, false, false, false, false, false, false, false, false, false, false, false, false] rfl rfl (any_of HT_.out (by kernel_rfl)) (fun _ _ _ h => h) (Or.inl ⟨by rfl, ?_⟩) ?_ ?_
  rotate_left
  · intro w'
    go_simp
    with_reducible rfl
  rotate_left
  · exact zQ
  refine pure_ (i := 1) (N := some 11) (v := ?_) (a' := ?_) #[true, true, false, false, false, false, false, false, false, false, false, false, false, false] rfl rfl (any_of HT_.out (by kernel_rfl)) (fun _ _ _ h => h) (Or.inl ⟨by rfl, ?_⟩) ?_ ?_
  rotate_left
  · intro w'
    go_simp
    with_reducible rfl
  rotate_left
  · exact zQ
  refine pure_ (i := 2) (N := some 12) (v := ?_) (a' := ?_) #[true, true, true, false, false, false, false, false, false, false, false, false, false, false] rfl rfl (any_of HT_.out (by kernel_rfl)) (fun _ _ _ h => h) (Or.inl ⟨by rfl, ?_⟩) ?_ ?_
  rotate_left
  · intro w'
    go_simp
    with_reducible rfl
  rotate_left
  · exact zQ
  refine pure_ (i := 3) (N := some 13) (v := ?_) (a' := ?_) #[true, true, true, true, false, false, false, false, false, false, false, false, false, false] rfl rfl (any_of HT_.out (by kernel_rfl)) (fun _ _ _ h => h) (Or.inl ⟨by rfl, ?_⟩) ?_ ?_
  rotate_left
  · intro w'
    go_simp
    with_reducible rfl
  rotate_left
  · exact zQ
  refine pure_ (i := 4) (N := some 14) (v := ?_) (a' := ?_) #[true, true, true, true, true, false, false, false, false, false, false, false, false, false] rfl rfl (any_of HT_.out (by kernel_rfl)) (fun _ _ _ h => h) (Or.inl ⟨by rfl, ?_⟩) ?_ ?_
  rotate_left
  · intro w'
    go_simp
    with_reducible rfl
  rotate_left
  · exact zQ
  refine pure_ (i := 6) (N := some 16) (v := ?_) (a' := ?_) #[true, true, true, true, true, false, true, false, false, false, false, false, false, false] rfl rfl (any_of HT_.out (by kernel_rfl)) (fun _ _ _ h => h) (Or.inl ⟨by rfl, ?_⟩) ?_ ?_
  rotate_left
  · intro w'
    go_simp
    with_reducible rfl
  rotate_left
  · exact zQ
  refine pure_ (i := 7) (N := some 17) (v := ?_) (a' := ?_) #[true, true, true, true, true, false, true, true, false, false, false, false, false, false] rfl rfl (any_of HT_.out (by kernel_rfl)) (fun _ _ _ h => h) (Or.inl ⟨by rfl, ?_⟩) ?_ ?_
  rotate_left
  · intro w'
    go_simp
    with_reducible rfl
  rotate_left
  · exact zQ
  refine pure_ (i := 8) (N := some 18) (v := ?_) (a' := ?_) #[true, true, true, true, true, false, true, true, true, false, false, false, false, false] rfl rfl (any_of HT_.out (by kernel_rfl)) (fun _ _ _ h => h) (Or.inl ⟨by rfl, ?_⟩) ?_ ?_
  rotate_left
  · intro w'
    go_simp
    with_reducible rfl
  rotate_left
  · exact zQ
  refine pure_ (i := 9) (N := some 19) (v := ?_) (a' := ?_) #[true, true, true, true, true, false, true, true, true, true, false, false, false, false] rfl rfl (any_of HT_.out (by kernel_rfl)) (fun _ _ _ h => h) (Or.inl ⟨by rfl, ?_⟩) ?_ ?_
  rotate_left
  · intro w'
    go_simp
    with_reducible rfl
  rotate_left
  · exact zQ
  refine one_ (i := 5) (N := some 15) #[true, true, true, true, true, true, true, true, true, true, false, false, false, false] rfl rfl (one_of HT_.out (by kernel_rfl)) (by decide) (fun K hK => ?_)
  refine goes_ Try.func156 (by kernel_rfl) rfl #[.slice A2 l2.length c2] (by rfl) rfl rfl (by (try simp only [List.map_toArray, List.map_cons, List.map_nil]); first | done | rfl | (simp only [List.length_drop, List.length_take]; rfl)) ?_
  with_reducible refine (spec_l3Shape.calls k _ _ l2 t358 _ ?side1 ?side2 A7.out).mono ?_
  (case side1 => exact zC (Kd.C_below HR2.out HB.out))
  (case side2 => exact HC2.out)
  rintro e w14 ⟨v359, rfl, ho0, hb⟩
  refine ⟨_, rfl, ?_⟩
  have n0_ := zk (Kd.R_lower ho0 (below_size (zB HB)))
  have n1_ := zF HB hb
  clear HB
  have HO360 := n0_
  have HB := n1_
  clear n0_ n1_
  (try clear hb)
  (try clear hb2)
  (try clear hk)
  (try clear hi)
  (try clear ho0)
  refine hK.out _ _ trivial (fun hHeld => ?_)
  clear hK K
  refine zM 15 ?_
  refine one_ (i := 10) (N := some 20) #[true, true, true, true, true, true, true, true, true, true, true, false, false, false] rfl rfl (one_of HT_.out (by kernel_rfl)) (by decide) (fun K hK => ?_)
  refine goes_ Try.func156 (by kernel_rfl) rfl #[.slice A1 y361.length c1] (by rfl) rfl rfl (by (try simp only [List.map_toArray, List.map_cons, List.map_nil]); first | done | rfl | (simp only [List.length_drop, List.length_take]; rfl)) ?_
  with_reducible refine (spec_l3Shape.calls k _ _ y361 t365 _ ?side1 ?side2 A10.out).mono ?_
  (case side1 => exact zC (Kd.C_below HR364.out HB.out))
  (case side2 => exact HC364.out)
  rintro e w15 ⟨v366, rfl, ho0, hb⟩
  refine ⟨_, rfl, ?_⟩
  have n0_ := zE HO360 ho0 hb
  have n1_ := zk (Kd.R_lower (Kd.R_new' ho0 (Kd.R_lt (zR HO360))) (below_size (zB HB)))
  have n2_ := zF HB hb
  clear HO360
  clear HB
  have HO360 := n0_
  have HO367 := n1_
  have HB := n2_
  clear n0_ n1_ n2_
  (try clear hb)
  (try clear hb2)
  (try clear hk)
  (try clear hi)
  (try clear ho0)
  obtain ⟨Ao16, co16, eo16⟩ := Kd.R_slice HO360.out
  (first | subst eo16 | (injection eo16 with f1_ f2_ f3_; have f4_ := f1_.symm; have f5_ := f3_.symm; clear f1_ f2_ f3_; subst f4_; subst f5_))
  obtain ⟨Ao17, co17, eo17⟩ := Kd.R_slice HO367.out
  (first | subst eo17 | (injection eo17 with f1_ f2_ f3_; have f4_ := f1_.symm; have f5_ := f3_.symm; clear f1_ f2_ f3_; subst f4_; subst f5_))
  refine hK.out _ _ trivial (fun hHeld => ?_)
  clear hK K
  refine zM 20 ?_
  refine one_ (i := 11) (N := some 21) #[true, true, true, true, true, true, true, true, true, true, true, true, false, false] rfl rfl (one_of HT_.out (by kernel_rfl)) (by decide) (fun K hK => ?_)
  refine goes_ Try.func170 (by kernel_rfl) rfl #[.slice Ao16 t358.length co16, .slice Ao17 t365.length co17] (by rfl) rfl rfl (by (try simp only [List.map_toArray, List.map_cons, List.map_nil]); first | done | rfl | (simp only [List.length_drop, List.length_take]; rfl)) ?_
  with_reducible refine (spec_l1Same.calls k _ _ t358 _ _ t365 t368 _ ?side1 ?side2 ?side3 ?side4 A11.out).mono ?_
  (case side1 => exact zC (Kd.R_reads' HO360.out).2.2)
  (case side2 => exact (Kd.R_reads' HO360.out).2.1)
  (case side3 => exact zC (Kd.R_reads' HO367.out).2.2)
  (case side4 => exact (Kd.R_reads' HO367.out).2.1)
  rintro e w' ⟨rfl, ⟨nd, rfl⟩⟩
  refine ⟨_, rfl, ?_⟩
  refine hK.out _ _ trivial (fun hHeld => ?_)
  clear hK K
  refine zM 21 ?_
  refine pure_ (i := 12) (N := some 22) (v := ?_) (a' := ?_) #[true, true, true, true, true, true, true, true, true, true, true, true, true, false] rfl rfl (any_of HT_.out (by kernel_rfl)) (fun _ _ _ h => h) (Or.inl ⟨by rfl, ?_⟩) ?_ ?_
  rotate_left
  · intro w'
    go_simp
    with_reducible rfl
  rotate_left
  · exact zQ
  refine pure_ (i := 13) (N := some 23) (v := ?_) (a' := ?_) #[true, true, true, true, true, true, true, true, true, true, true, true, true, true] rfl rfl (any_of HT_.out (by kernel_rfl)) (fun _ _ _ h => h) (Or.inl ⟨by rfl, ?_⟩) ?_ ?_
  rotate_left
  · intro w'
    go_simp
    with_reducible rfl
  rotate_left
  · exact zQ
  refine done_ (done_of HT_.out (by kernel_rfl)) ?_
  try go_wp2
  go_meet
  case rel => exact ⟨_, (!t368), (by first | rfl | (simp; done) | (simp [*]; done)), H', ⟨by first | omega | exact Nat.le_refl _⟩, ⟨by repeat (first | exact HB.out | apply za | apply zd | apply ze)⟩⟩
 case rest =>
  clear HC5
  try clear c1
  try clear q1
  try clear c2
  try clear p2
  try clear c6
  try clear c6b0
  try clear c6b1
  try clear c8
  try clear c8b0
  try clear c8b1
  try clear c9
  try clear c9b0
  try clear c9b1
  try clear q13
  try clear c15
  try clear c17
  try clear q13
  obtain ⟨kq, x23_4, rfl, HA, HJ4, HB⟩ := hcut
  cases kq with
  | zero => exact absurd HA.out (by simp [spec_l3Goes.j0])
  | succ kj4 =>
   have H := HA.out
   clear HA
   simp only [spec_l3Goes.j0] at H
   by_cases c19 : x23_4 = true
   rotate_left
   · replace c19 := Bool.eq_false_iff.mpr c19
     subst c19
     have H1 : (if (l2.length : Int) = (l1.length : Int) then (some true) else (spec_l3Goes.l0 kj4 l0 l1 l2 a3)) = some r := by rw [if_neg (show ¬ (false = true) by decide)] at H; exact H
     clear H
     have H := H1
     clear H1
     by_cases c20 : (l2.length : Int) = (l1.length : Int)
     rotate_left
     · rw [if_neg c20] at H
       have c20b0 : ((l2.length : Int) == (l1.length : Int)) = false := beq_eq_false_iff_ne.mpr c20
       have c20b1 : ((l2.length : Int) != (l1.length : Int)) = true := bne_iff_ne.mpr c20
       have c20b2 : (l2.length == l1.length) = false := by first | simpa using c20 | (simp at c20 ⊢; omega)
       have H' := zk H
       clear H
       go_wp2
       go_loopg [9] kj4 (fun kq v9 w' => ∃ (x9_2 : Int), v9 = .int .i64 x9_2 ∧ Aside0 (spec_l3Goes.l0 kq l0 l1 l2 x9_2 = some r) ∧ Aside0 (kq ≤ kj4) ∧ Aside0 (Below w.heap.size w w'))
       case atStart => exact ⟨(a3), (by first | rfl | (simp; done) | (simp [*]; done)), H', ⟨Nat.le_refl _⟩, ⟨by repeat (first | exact HB.out | apply za | apply zd | apply ze)⟩⟩
       case round =>
        clear H'
        try clear c1
        try clear q1
        try clear c2
        try clear p2
        try clear c6
        try clear c6b0
        try clear c6b1
        try clear c8
        try clear c8b0
        try clear c8b1
        try clear c9
        try clear c9b0
        try clear c9b1
        try clear q13
        try clear c15
        try clear c17
        try clear c19
        try clear c20
        try clear c20b0
        try clear c20b1
        try clear c20b2
        try clear p2
        try clear q1
        try clear q13
        obtain ⟨x9_2, rfl, HA, HK2, HB⟩ := hrel
        cases gk with
        | zero => exact absurd HA.out (by simp [spec_l3Goes.l0])
        | succ k2 =>
         have H := HA.out
         clear HA
         simp only [spec_l3Goes.l0] at H
         by_cases c21 : x9_2 < (l0.length : Int)
         rotate_left
         · rw [if_neg c21] at H
           have c21b0 := decide_eq_false c21
           clear c21
           obtain rfl := Option.some.inj H
           go_wp2
           go_ret
           exact ⟨by first | rfl | (simp [errW_none, errW_some] <;> rfl) | (simp [*, errW_none, errW_some] <;> rfl), by repeat (first | exact HB.out | apply za | apply zd | apply ze)⟩
         rw [if_pos c21] at H
         have c21b0 := decide_eq_true c21
         clear c21
         replace H := Option.bind_eq_some_iff.mp H
         obtain ⟨t369, A220, H⟩ := H
         try dsimp only at H
         have A22 := zk A220
         clear A220
         by_cases c23 : 0 ≤ x9_2
         rotate_left
         · rw [if_neg c23] at H
           exact absurd H (by simp)
         rw [if_pos c23] at H
         have c23b0 := decide_eq_true c23
         clear c23
         obtain ⟨y373, hy373⟩ : ∃ y_ : List Int, y_ = (([rd l0 x9_2] : List Int)) := ⟨_, rfl⟩
         rw [← hy373] at H
         try rw [zO y373] at H
         try dsimp only at H
         have Ny373 := zk hy373
         clear hy373
         by_cases c24 : t369.length + y373.length < 17592186044416
         rotate_left
         · rw [if_neg c24] at H
           exact absurd H (by simp)
         rw [if_pos c24] at H
         have LMc24 := zk c24
         clear c24
         obtain ⟨y376, hy376⟩ : ∃ y_ : List Int, y_ = (t369 ++ y373) := ⟨_, rfl⟩
         rw [← hy376] at H
         try rw [zO y376] at H
         try dsimp only at H
         have Ny376 := zk hy376
         clear hy376
         replace H := Option.bind_eq_some_iff.mp H
         obtain ⟨t379, A250, H⟩ := H
         try dsimp only at H
         have A25 := zk A250
         clear A250
         by_cases c26 : t379 = true
         rotate_left
         · replace c26 := Bool.eq_false_iff.mpr c26
           subst c26
           have H1 : (spec_l3Goes.l0 k2 l0 l1 l2 (wrap64 (x9_2 + 1))) = some r := by rw [if_neg (show ¬ (false = true) by decide)] at H; exact H
           clear H
           have H := H1
           clear H1
           have H' := zk H
           clear H
           try go_wp2
           have n0_ := zk (ze HB.out)
           clear HB
           have HB := n0_
           clear n0_
           have p372 : 0 ≤ (x9_2 : Int) := zo (by assumption)
           have q372 : x9_2 < (l0.length : Int) := zo (by assumption)
           obtain ⟨ad372, e372, hx372_0⟩ := Kd.at_int HR0.out x9_2 p372 q372
           have hw372_0 := hx372_0
           cases e372
           replace hx372_0 := (HB.out.cell (World.block_lt_of_cell? w _ hx372_0)).trans hx372_0
           replace p372 := eq_true p372
           replace q372 := eq_true q372
           refine start_ (n := 13) (S := fun w' => w'.cell? (ad372.add (x9_2).toNat) = some (.int .i64 (rd l0 x9_2))) (ds := []) #[false, false, false, false, false, false, false, false, false, false, false, false, false] (by kernel_rfl) rfl rfl (((HB.out.cell (World.block_lt_of_cell? w _ hw372_0)).trans hw372_0)) (fun hHeld => ?_); refine with_tabW spec_l3Goes.tab8 spec_l3Goes.bits8 (fun HT_ HW_ => ?_)
           generalize wr.drew = w36 at HB hx372_0 hHeld ⊢
           refine pure_ (i := 0) (N := some 36) (v := ?_) (a' := ?_) #[true, false, false, false, false, false, false, false, false, false, false, false, false] rfl rfl (any_of HT_.out (by kernel_rfl)) (fun _ _ _ h => h) (Or.inl ⟨by rfl, ?_⟩) ?_ ?_
           rotate_left
           · intro w'
             go_simp
             with_reducible rfl
           rotate_left
           · exact zQ
           refine pure_ (i := 1) (N := some 37) (v := ?_) (a' := ?_) #[true, true, false, false, false, false, false, false, false, false, false, false, false] rfl rfl (any_of HT_.out (by kernel_rfl)) (fun _ _ _ h => h) (Or.inl ⟨by rfl, ?_⟩) ?_ ?_
           rotate_left
           · intro w'
             go_simp
             with_reducible rfl
           rotate_left
           · exact zQ
           refine pure_ (i := 2) (N := some 38) (v := ?_) (a' := ?_) #[true, true, true, false, false, false, false, false, false, false, false, false, false] rfl rfl (any_of HT_.out (by kernel_rfl)) (fun _ _ _ h => h) (Or.inl ⟨by rfl, ?_⟩) ?_ ?_
           rotate_left
           · intro w'
             go_simp
             with_reducible rfl
           rotate_left
           · exact zQ
           refine pure_ (i := 4) (N := some 40) (v := ?_) (a' := ?_) #[true, true, true, false, true, false, false, false, false, false, false, false, false] rfl rfl (any_of HT_.out (by kernel_rfl)) (fun _ _ _ h => h) (Or.inl ⟨by rfl, ?_⟩) ?_ ?_
           rotate_left
           · intro w'
             go_simp
             with_reducible rfl
           rotate_left
           · exact zQ
           refine pure_ (i := 5) (N := some 41) (v := ?_) (a' := ?_) #[true, true, true, false, true, true, false, false, false, false, false, false, false] rfl rfl (any_of HT_.out (by kernel_rfl)) (fun _ _ _ h => h) (Or.inl ⟨by rfl, ?_⟩) ?_ ?_
           rotate_left
           · intro w'
             go_simp
             with_reducible rfl
           rotate_left
           · exact zQ
           refine pure_ (i := 6) (N := some 42) (v := ?_) (a' := ?_) #[true, true, true, false, true, true, true, false, false, false, false, false, false] rfl rfl (any_of HT_.out (by kernel_rfl)) (fun _ _ _ h => h) (Or.inl ⟨by rfl, ?_⟩) ?_ ?_
           rotate_left
           · intro w'
             go_simp
             with_reducible rfl
           rotate_left
           · exact zQ
           refine pure_ (i := 10) (N := some 46) (v := ?_) (a' := ?_) #[true, true, true, false, true, true, true, false, false, false, true, false, false] rfl rfl (any_of HT_.out (by kernel_rfl)) (fun _ _ _ h => h) (Or.inl ⟨by rfl, ?_⟩) ?_ ?_
           rotate_left
           · intro w'
             go_simp
             with_reducible rfl
           rotate_left
           · exact zQ
           refine pure_ (i := 11) (N := some 47) (v := ?_) (a' := ?_) #[true, true, true, false, true, true, true, false, false, false, true, true, false] rfl rfl (any_of HT_.out (by kernel_rfl)) (fun _ _ _ h => h) (Or.inl ⟨by rfl, ?_⟩) ?_ ?_
           rotate_left
           · intro w'
             go_simp
             with_reducible rfl
           rotate_left
           · exact zQ
           refine take_ (i := 7) (N := some 43) (v := ?_) (a' := ?_) #[true, true, true, false, true, true, true, true, false, false, true, true, false] rfl rfl (take_ofW HT_.out HW_.out (by kernel_rfl)) (fun _ _ _ h => h) (Or.inl ⟨by rfl, ?_⟩) hHeld ?_ ?_
           rotate_left
           · intro w' s0
             go_simp
             with_reducible rfl
           rotate_left
           · exact zQ
           refine join_ (σ := Value × Value) 2 #[true, true, true, true, true, true, true, true, true, false, true, true, false] (fun s_ => [(39, s_.1), (44, s_.2)]) (fun s_ w' => (w'.cell? (ad372.add (x9_2).toNat) = some (.int .i64 (rd l0 x9_2))) ∧ (Kd.R (Kd.int .i64) 3 w' w.heap.size (fun k_ => some k_ ≠ (s_.2 : Value).ownBlock) s_.1 t369) ∧ (Kd.R (Kd.int .i64) 3 w' w.heap.size (fun k_ => some k_ ≠ (s_.1 : Value).ownBlock) s_.2 y373) ∧ (Below w.heap.size w w')) ?_ ?_
           rotate_left
           · intro hCont
             refine two_ (i := 3) (j := 8) (Ni := some 39) (Nj := some 44) #[true, true, true, true, true, true, true, true, false, false, true, true, false] #[true, true, true, false, true, true, true, true, true, false, true, true, false] rfl rfl rfl rfl (two_of HT_.out (by kernel_rfl)) (by decide) (by decide) (fun K hK => ?_) (fun K hK => ?_)
             · skip
               refine goes_ Try.func169 (by kernel_rfl) rfl #[.slice A2 l2.length c2] (by rfl) rfl rfl (by (try simp only [List.map_toArray, List.map_cons, List.map_nil]); first | done | rfl | (simp only [List.length_drop, List.length_take]; rfl)) ?_
               with_reducible refine (spec_l1Own.calls _ _ l2 t369 _ ?side1 ?side2 A22.out).mono ?_
               (case side1 => exact zC (Kd.C_below HR2.out HB.out))
               (case side2 => exact HC2.out)
               rintro e w37 ⟨v370, rfl, ho0, hb⟩
               refine ⟨_, rfl, ?_⟩
               have n0_ := zk (Kd.R_lower ho0 (below_size (zB HB)))
               have n1_ := zF HB hb
               clear HB
               have HO371 := n0_
               have HB := n1_
               clear n0_ n1_
               (try clear hb)
               (try clear hb2)
               (try clear hk)
               (try clear hi)
               (try clear ho0)
               refine hK.out _ _ (((HB.out.cell (World.block_lt_of_cell? w _ hw372_0)).trans hw372_0)) (fun hHeld => ?_)
               clear hK K
               refine zM 39 ?_
               refine one_ (i := 8) (N := some 44) #[true, true, true, true, true, true, true, true, true, false, true, true, false] rfl rfl (one_of HT_.out (by kernel_rfl)) (by decide) (fun K hK => ?_)
               refine Kd.R_lit_step (Kd.int .i64) _ 3 ?hg (N := 44) ?hd (xs := ([rd l0 x9_2] : List Int)) (inner := [.int .i64 (rd l0 x9_2)]) (ok := fun _ => True) (okp := fun _ => True) ?hr ?hp (fun _ hk => hk) trivial (Below.refl _ _) (Nat.le_refl _) (by simp) ?_; (case hd => rfl); (case hg => rfl); (case hr => first | (go_simp; done) | (go_simp; rfl)); (case hp => exact (Reps.one (show Kd.M (Kd.int .i64) _ _ _ (rd l0 x9_2) [.int .i64 (rd l0 x9_2)] from rfl) (Reps.none _ _)))
               intro v374 w38 ho39 hb hg_ hnew_
               clear hg_ hnew_
               (first | rw [← Ny373.out] at ho39 | (simp only [Int.reduceToNat] at ho39; rw [← Ny373.out] at ho39))
               have n0_ := zE HO371 ho39 hb
               have n1_ := zk (Kd.R_lower (Kd.R_new' ho39 (Kd.R_lt (zR HO371))) (below_size (zB HB)))
               have n2_ := zF HB hb
               clear HO371
               clear HB
               have HO371 := n0_
               have HO375 := n1_
               have HB := n2_
               clear n0_ n1_ n2_
               clear hb ho39
               refine hK.out _ _ (((HB.out.cell (World.block_lt_of_cell? w _ hw372_0)).trans hw372_0)) (fun hHeld => ?_)
               clear hK K
               refine zM 44 ?_
               exact norm_ (by simp only [putAll, Act.put, List.setIfInBounds_toArray, List.set_cons_zero, List.set_cons_succ]) (hCont (v370, v374) _ ⟨hHeld, (by (with_reducible repeat (first | apply zs | apply zr | apply zt)); exact Kd.R_mono HO371.out (fun _ hk => hk.2)), (by (with_reducible repeat (first | apply zs | apply zr | apply zt)); exact Kd.R_mono HO375.out (fun _ hk => hk.2)), (zB HB)⟩)
             · skip
               refine Kd.R_lit_step (Kd.int .i64) _ 3 ?hg (N := 44) ?hd (xs := ([rd l0 x9_2] : List Int)) (inner := [.int .i64 (rd l0 x9_2)]) (ok := fun _ => True) (okp := fun _ => True) ?hr ?hp (fun _ hk => hk) trivial (Below.refl _ _) (Nat.le_refl _) (by simp) ?_; (case hd => rfl); (case hg => rfl); (case hr => first | (go_simp; done) | (go_simp; rfl)); (case hp => exact (Reps.one (show Kd.M (Kd.int .i64) _ _ _ (rd l0 x9_2) [.int .i64 (rd l0 x9_2)] from rfl) (Reps.none _ _)))
               intro v374 w37 ho38 hb hg_ hnew_
               clear hg_ hnew_
               (first | rw [← Ny373.out] at ho38 | (simp only [Int.reduceToNat] at ho38; rw [← Ny373.out] at ho38))
               have n0_ := zk (Kd.R_lower ho38 (below_size (zB HB)))
               have n1_ := zF HB hb
               clear HB
               have HO375 := n0_
               have HB := n1_
               clear n0_ n1_
               clear hb ho38
               refine hK.out _ _ (((HB.out.cell (World.block_lt_of_cell? w _ hw372_0)).trans hw372_0)) (fun hHeld => ?_)
               clear hK K
               refine zM 44 ?_
               refine one_ (i := 3) (N := some 39) #[true, true, true, true, true, true, true, true, true, false, true, true, false] rfl rfl (one_of HT_.out (by kernel_rfl)) (by decide) (fun K hK => ?_)
               refine goes_ Try.func169 (by kernel_rfl) rfl #[.slice A2 l2.length c2] (by rfl) rfl rfl (by (try simp only [List.map_toArray, List.map_cons, List.map_nil]); first | done | rfl | (simp only [List.length_drop, List.length_take]; rfl)) ?_
               with_reducible refine (spec_l1Own.calls _ _ l2 t369 _ ?side1 ?side2 A22.out).mono ?_
               (case side1 => exact zC (Kd.C_below HR2.out HB.out))
               (case side2 => exact HC2.out)
               rintro e w39 ⟨v370, rfl, ho0, hb⟩
               refine ⟨_, rfl, ?_⟩
               have n0_ := zE HO375 ho0 hb
               have n1_ := zk (Kd.R_lower (Kd.R_new' ho0 (Kd.R_lt (zR HO375))) (below_size (zB HB)))
               have n2_ := zF HB hb
               clear HO375
               clear HB
               have HO375 := n0_
               have HO371 := n1_
               have HB := n2_
               clear n0_ n1_ n2_
               (try clear hb)
               (try clear hb2)
               (try clear hk)
               (try clear hi)
               (try clear ho0)
               refine hK.out _ _ (((HB.out.cell (World.block_lt_of_cell? w _ hw372_0)).trans hw372_0)) (fun hHeld => ?_)
               clear hK K
               refine zM 39 ?_
               exact norm_ (by simp only [putAll, Act.put, List.setIfInBounds_toArray, List.set_cons_zero, List.set_cons_succ]) (hCont (v370, v374) _ ⟨hHeld, (by (with_reducible repeat (first | apply zs | apply zr | apply zt)); exact Kd.R_mono HO371.out (fun _ hk => hk.2)), (by (with_reducible repeat (first | apply zs | apply zr | apply zt)); exact Kd.R_mono HO375.out (fun _ hk => hk.2)), (zB HB)⟩)
           rintro ⟨v370, v374⟩ w40 ⟨hS_, h0_, h1_, h2_⟩
           have n0_ : Aside0 (Kd.R (Kd.int .i64) 3 w40 w.heap.size (fun k_ => some k_ ≠ (v374 : Value).ownBlock) v370 t369) := ⟨h0_⟩
           have n1_ : Aside0 (Kd.R (Kd.int .i64) 3 w40 w.heap.size (fun k_ => some k_ ≠ (v370 : Value).ownBlock) v374 y373) := ⟨h1_⟩
           have n2_ : Aside0 (Below w.heap.size w w40) := ⟨h2_⟩
           clear HB
           clear h0_ h1_ h2_
           have HO371 := n0_
           have HO375 := n1_
           have HB := n2_
           clear n0_ n1_ n2_
           have hHeld : w40.cell? (ad372.add (x9_2).toNat) = some (.int .i64 (rd l0 x9_2)) := hS_
           obtain ⟨Ao42, co42, eo42⟩ := Kd.R_slice HO375.out
           (first | subst eo42 | (injection eo42 with f1_ f2_ f3_; have f4_ := f1_.symm; have f5_ := f3_.symm; clear f1_ f2_ f3_; subst f4_; subst f5_))
           refine norm_ (a' := ?_) ?_ ?_
           rotate_left
           · simp only [putAll, Act.put, List.setIfInBounds_toArray, List.set_cons_zero, List.set_cons_succ]
             rfl
           refine one_ (i := 9) (N := some 45) #[true, true, true, true, true, true, true, true, true, true, true, true, false] rfl rfl (one_of HT_.out (by kernel_rfl)) (by decide) (fun K hK => ?_)
           refine Kd.R_append_rows_step (Kd.int .i64) (w0 := w) w.heap.size (by rfl) (.tmp 39) (.tmp 44) 22 3 (.int .i64 0) 8 rfl Try.underlying22 info3 rfl (by decide) (by omega) v370 t369 y373 _ _ _ (fun k_ => some k_ ≠ (.slice Ao42 y373.length co42 : Value).ownBlock) (fun _ => False) rfl rfl ?aO ?aR (fun _ _ h => h) (fun _ h => h.elim) ?aF ?aB ?aS ?aL ?_
           (case aR => exact zC (Kd.R_reads' HO375.out).2.2)
           (case aB => exact (zB HB))
           (case aF => exact (fun k_ hk => Kd.fresh' (Kd.R_lt (zR HO375)) k_ hk))
           (case aO => exact (zR HO371))
           (case aS => exact (below_size (zB HB)))
           (case aL => have := LMc24.out; omega)
           intro v377 w41 ho hb hg hat
           rw [← Ny376.out] at ho
           have n0_ := zk (Kd.R_after (ok := (fun _ => True)) (by (with_reducible repeat (first | apply zs | apply zr | apply zt)); first | exact Kd.R_mono HO375.out (fun _ hk => ⟨trivial, hk⟩) | exact Kd.R_mono HO375.out (fun k_ hk => by (have own_ : ∀ (A : Option Addr) (n c : Nat), (Value.slice A n c).ownBlock = A.map Addr.block := fun A n c => by cases A <;> rfl); simp only [own_] at hk ⊢; exact ⟨trivial, hk⟩)) hg hat)
           have n1_ := zk (hb)
           have n2_ := zk (ho)
           clear HO375
           clear HB
           clear HO371
           have HO375 := n0_
           have HB := n1_
           have HO378 := n2_
           clear n0_ n1_ n2_
           clear ho hb hg hat
           obtain ⟨Ao43, co43, eo43⟩ := Kd.R_slice HO378.out
           (first | subst eo43 | (injection eo43 with f1_ f2_ f3_; have f4_ := f1_.symm; have f5_ := f3_.symm; clear f1_ f2_ f3_; subst f4_; subst f5_))
           refine hK.out _ _ (((HB.out.cell (World.block_lt_of_cell? w _ hw372_0)).trans hw372_0)) (fun hHeld => ?_)
           clear hK K
           refine zM 45 ?_
           refine one_ (i := 12) (N := some 48) #[true, true, true, true, true, true, true, true, true, true, true, true, true] rfl rfl (one_of HT_.out (by kernel_rfl)) (by decide) (fun K hK => ?_)
           refine goes_ Try.func265 (by kernel_rfl) rfl #[.slice (some ad372) l0.length c0, .slice A1 l1.length c1, .slice Ao43 y376.length co43, .int .i64 (wrap64 (x9_2 + 1))] (by rfl) rfl rfl (by (try simp only [List.map_toArray, List.map_cons, List.map_nil]); first | done | rfl | (simp only [List.length_drop, List.length_take]; rfl)) ?_
           with_reducible refine (ih k2 (by have := HJ4.out; have := HK2.out; omega) _ _ l0 _ _ l1 _ _ y376 (wrap64 (x9_2 + 1)) false _ ?side1 ?side2 ?side3 ?side4 ?side5 ?side6 A25.out).mono ?_
           (case side1 => exact zC (Kd.C_below HR0.out HB.out))
           (case side2 => exact HC0.out)
           (case side3 => exact zC (Kd.C_below HR1.out HB.out))
           (case side4 => exact HC1.out)
           (case side5 => exact zC (Kd.R_reads' HO378.out).2.2)
           (case side6 => exact (Kd.R_reads' HO378.out).2.1)
           rintro e w44 ⟨rfl, hb⟩
           refine ⟨_, rfl, ?_⟩
           have n0_ := zk (Kd.R_below (zR HO375) hb)
           have n1_ := zk (Kd.R_below (zR HO378) hb)
           have n2_ := zF HB hb
           clear HO375
           clear HO378
           clear HB
           have HO375 := n0_
           have HO378 := n1_
           have HB := n2_
           clear n0_ n1_ n2_
           (try clear hb)
           (try clear hb2)
           (try clear hk)
           (try clear hi)
           refine hK.out _ _ (((HB.out.cell (World.block_lt_of_cell? w _ hw372_0)).trans hw372_0)) (fun hHeld => ?_)
           clear hK K
           refine zM 48 ?_
           refine done_ (done_of HT_.out (by kernel_rfl)) ?_
           try go_wp2
           go_roundg k2
           case measure => have := HJ4.out; have := HK2.out; omega
           case rel => exact ⟨(wrap64 (x9_2 + 1)), (by first | rfl | (simp; done) | (simp [*]; done)), H', ⟨by have := HJ4.out; have := HK2.out; omega⟩, ⟨by repeat (first | exact HB.out | apply za | apply zd | apply ze)⟩⟩
         subst c26
         have H1 : (some true) = some r := by rw [if_pos rfl] at H; exact H
         clear H
         have H := H1
         clear H1
         obtain rfl := Option.some.inj H
         try go_wp2
         have n0_ := zk (ze HB.out)
         clear HB
         have HB := n0_
         clear n0_
         have p372 : 0 ≤ (x9_2 : Int) := zo (by assumption)
         have q372 : x9_2 < (l0.length : Int) := zo (by assumption)
         obtain ⟨ad372, e372, hx372_0⟩ := Kd.at_int HR0.out x9_2 p372 q372
         have hw372_0 := hx372_0
         cases e372
         replace hx372_0 := (HB.out.cell (World.block_lt_of_cell? w _ hx372_0)).trans hx372_0
         replace p372 := eq_true p372
         replace q372 := eq_true q372
         refine start_ (n := 13) (S := fun w' => w'.cell? (ad372.add (x9_2).toNat) = some (.int .i64 (rd l0 x9_2))) (ds := []) #[false, false, false, false, false, false, false, false, false, false, false, false, false] (by kernel_rfl) rfl rfl (((HB.out.cell (World.block_lt_of_cell? w _ hw372_0)).trans hw372_0)) (fun hHeld => ?_); refine with_tabW spec_l3Goes.tab8 spec_l3Goes.bits8 (fun HT_ HW_ => ?_)
         generalize wr.drew = w27 at HB hx372_0 hHeld ⊢
         refine pure_ (i := 0) (N := some 36) (v := ?_) (a' := ?_) #[true, false, false, false, false, false, false, false, false, false, false, false, false] rfl rfl (any_of HT_.out (by kernel_rfl)) (fun _ _ _ h => h) (Or.inl ⟨by rfl, ?_⟩) ?_ ?_
         rotate_left
         · intro w'
           go_simp
           with_reducible rfl
         rotate_left
         · exact zQ
         refine pure_ (i := 1) (N := some 37) (v := ?_) (a' := ?_) #[true, true, false, false, false, false, false, false, false, false, false, false, false] rfl rfl (any_of HT_.out (by kernel_rfl)) (fun _ _ _ h => h) (Or.inl ⟨by rfl, ?_⟩) ?_ ?_
         rotate_left
         · intro w'
           go_simp
           with_reducible rfl
         rotate_left
         · exact zQ
         refine pure_ (i := 2) (N := some 38) (v := ?_) (a' := ?_) #[true, true, true, false, false, false, false, false, false, false, false, false, false] rfl rfl (any_of HT_.out (by kernel_rfl)) (fun _ _ _ h => h) (Or.inl ⟨by rfl, ?_⟩) ?_ ?_
         rotate_left
         · intro w'
           go_simp
           with_reducible rfl
         rotate_left
         · exact zQ
         refine pure_ (i := 4) (N := some 40) (v := ?_) (a' := ?_) #[true, true, true, false, true, false, false, false, false, false, false, false, false] rfl rfl (any_of HT_.out (by kernel_rfl)) (fun _ _ _ h => h) (Or.inl ⟨by rfl, ?_⟩) ?_ ?_
         rotate_left
         · intro w'
           go_simp
           with_reducible rfl
         rotate_left
         · exact zQ
         refine pure_ (i := 5) (N := some 41) (v := ?_) (a' := ?_) #[true, true, true, false, true, true, false, false, false, false, false, false, false] rfl rfl (any_of HT_.out (by kernel_rfl)) (fun _ _ _ h => h) (Or.inl ⟨by rfl, ?_⟩) ?_ ?_
         rotate_left
         · intro w'
           go_simp
           with_reducible rfl
         rotate_left
         · exact zQ
         refine pure_ (i := 6) (N := some 42) (v := ?_) (a' := ?_) #[true, true, true, false, true, true, true, false, false, false, false, false, false] rfl rfl (any_of HT_.out (by kernel_rfl)) (fun _ _ _ h => h) (Or.inl ⟨by rfl, ?_⟩) ?_ ?_
         rotate_left
         · intro w'
           go_simp
           with_reducible rfl
         rotate_left
         · exact zQ
         refine pure_ (i := 10) (N := some 46) (v := ?_) (a' := ?_) #[true, true, true, false, true, true, true, false, false, false, true, false, false] rfl rfl (any_of HT_.out (by kernel_rfl)) (fun _ _ _ h => h) (Or.inl ⟨by rfl, ?_⟩) ?_ ?_
         rotate_left
         · intro w'
           go_simp
           with_reducible rfl
         rotate_left
         · exact zQ
         refine pure_ (i := 11) (N := some 47) (v := ?_) (a' := ?_) #[true, true, true, false, true, true, true, false, false, false, true, true, false] rfl rfl (any_of HT_.out (by kernel_rfl)) (fun _ _ _ h => h) (Or.inl ⟨by rfl, ?_⟩) ?_ ?_
         rotate_left
         · intro w'
           go_simp
           with_reducible rfl
         rotate_left
         · exact zQ
         refine take_ (i := 7) (N := some 43) (v := ?_) (a' := ?_) #[true, true, true, false, true, true, true, true, false, false, true, true, false] rfl rfl (take_ofW HT_.out HW_.out (by kernel_rfl)) (fun _ _ _ h => h) (Or.inl ⟨by rfl, ?_⟩) hHeld ?_ ?_
         rotate_left
         · intro w' s0
           go_simp
           with_reducible rfl
         rotate_left
         · exact zQ
         refine join_ (σ := Value × Value) 2 #[true, true, true, true, true, true, true, true, true, false, true, true, false] (fun s_ => [(39, s_.1), (44, s_.2)]) (fun s_ w' => (w'.cell? (ad372.add (x9_2).toNat) = some (.int .i64 (rd l0 x9_2))) ∧ (Kd.R (Kd.int .i64) 3 w' w.heap.size (fun k_ => some k_ ≠ (s_.2 : Value).ownBlock) s_.1 t369) ∧ (Kd.R (Kd.int .i64) 3 w' w.heap.size (fun k_ => some k_ ≠ (s_.1 : Value).ownBlock) s_.2 y373) ∧ (Below w.heap.size w w')) ?_ ?_
         rotate_left
         · intro hCont
           refine two_ (i := 3) (j := 8) (Ni := some 39) (Nj := some 44) #[true, true, true, true, true, true, true, true, false, false, true, true, false] #[true, true, true, false, true, true, true, true, true, false, true, true, false] rfl rfl rfl rfl (two_of HT_.out (by kernel_rfl)) (by decide) (by decide) (fun K hK => ?_) (fun K hK => ?_)
           · skip
             refine goes_ Try.func169 (by kernel_rfl) rfl #[.slice A2 l2.length c2] (by rfl) rfl rfl (by (try simp only [List.map_toArray, List.map_cons, List.map_nil]); first | done | rfl | (simp only [List.length_drop, List.length_take]; rfl)) ?_
             with_reducible refine (spec_l1Own.calls _ _ l2 t369 _ ?side1 ?side2 A22.out).mono ?_
             (case side1 => exact zC (Kd.C_below HR2.out HB.out))
             (case side2 => exact HC2.out)
             rintro e w28 ⟨v370, rfl, ho0, hb⟩
             refine ⟨_, rfl, ?_⟩
             have n0_ := zk (Kd.R_lower ho0 (below_size (zB HB)))
             have n1_ := zF HB hb
             clear HB
             have HO371 := n0_
             have HB := n1_
             clear n0_ n1_
             (try clear hb)
             (try clear hb2)
             (try clear hk)
             (try clear hi)
             (try clear ho0)
             refine hK.out _ _ (((HB.out.cell (World.block_lt_of_cell? w _ hw372_0)).trans hw372_0)) (fun hHeld => ?_)
             clear hK K
             refine zM 39 ?_
             refine one_ (i := 8) (N := some 44) #[true, true, true, true, true, true, true, true, true, false, true, true, false] rfl rfl (one_of HT_.out (by kernel_rfl)) (by decide) (fun K hK => ?_)
             refine Kd.R_lit_step (Kd.int .i64) _ 3 ?hg (N := 44) ?hd (xs := ([rd l0 x9_2] : List Int)) (inner := [.int .i64 (rd l0 x9_2)]) (ok := fun _ => True) (okp := fun _ => True) ?hr ?hp (fun _ hk => hk) trivial (Below.refl _ _) (Nat.le_refl _) (by simp) ?_; (case hd => rfl); (case hg => rfl); (case hr => first | (go_simp; done) | (go_simp; rfl)); (case hp => exact (Reps.one (show Kd.M (Kd.int .i64) _ _ _ (rd l0 x9_2) [.int .i64 (rd l0 x9_2)] from rfl) (Reps.none _ _)))
             intro v374 w29 ho30 hb hg_ hnew_
             clear hg_ hnew_
             (first | rw [← Ny373.out] at ho30 | (simp only [Int.reduceToNat] at ho30; rw [← Ny373.out] at ho30))
             have n0_ := zE HO371 ho30 hb
             have n1_ := zk (Kd.R_lower (Kd.R_new' ho30 (Kd.R_lt (zR HO371))) (below_size (zB HB)))
             have n2_ := zF HB hb
             clear HO371
             clear HB
             have HO371 := n0_
             have HO375 := n1_
             have HB := n2_
             clear n0_ n1_ n2_
             clear hb ho30
             refine hK.out _ _ (((HB.out.cell (World.block_lt_of_cell? w _ hw372_0)).trans hw372_0)) (fun hHeld => ?_)
             clear hK K
             refine zM 44 ?_
             exact norm_ (by simp only [putAll, Act.put, List.setIfInBounds_toArray, List.set_cons_zero, List.set_cons_succ]) (hCont (v370, v374) _ ⟨hHeld, (by (with_reducible repeat (first | apply zs | apply zr | apply zt)); exact Kd.R_mono HO371.out (fun _ hk => hk.2)), (by (with_reducible repeat (first | apply zs | apply zr | apply zt)); exact Kd.R_mono HO375.out (fun _ hk => hk.2)), (zB HB)⟩)
           · skip
             refine Kd.R_lit_step (Kd.int .i64) _ 3 ?hg (N := 44) ?hd (xs := ([rd l0 x9_2] : List Int)) (inner := [.int .i64 (rd l0 x9_2)]) (ok := fun _ => True) (okp := fun _ => True) ?hr ?hp (fun _ hk => hk) trivial (Below.refl _ _) (Nat.le_refl _) (by simp) ?_; (case hd => rfl); (case hg => rfl); (case hr => first | (go_simp; done) | (go_simp; rfl)); (case hp => exact (Reps.one (show Kd.M (Kd.int .i64) _ _ _ (rd l0 x9_2) [.int .i64 (rd l0 x9_2)] from rfl) (Reps.none _ _)))
             intro v374 w28 ho29 hb hg_ hnew_
             clear hg_ hnew_
             (first | rw [← Ny373.out] at ho29 | (simp only [Int.reduceToNat] at ho29; rw [← Ny373.out] at ho29))
             have n0_ := zk (Kd.R_lower ho29 (below_size (zB HB)))
             have n1_ := zF HB hb
             clear HB
             have HO375 := n0_
             have HB := n1_
             clear n0_ n1_
             clear hb ho29
             refine hK.out _ _ (((HB.out.cell (World.block_lt_of_cell? w _ hw372_0)).trans hw372_0)) (fun hHeld => ?_)
             clear hK K
             refine zM 44 ?_
             refine one_ (i := 3) (N := some 39) #[true, true, true, true, true, true, true, true, true, false, true, true, false] rfl rfl (one_of HT_.out (by kernel_rfl)) (by decide) (fun K hK => ?_)
             refine goes_ Try.func169 (by kernel_rfl) rfl #[.slice A2 l2.length c2] (by rfl) rfl rfl (by (try simp only [List.map_toArray, List.map_cons, List.map_nil]); first | done | rfl | (simp only [List.length_drop, List.length_take]; rfl)) ?_
             with_reducible refine (spec_l1Own.calls _ _ l2 t369 _ ?side1 ?side2 A22.out).mono ?_
             (case side1 => exact zC (Kd.C_below HR2.out HB.out))
             (case side2 => exact HC2.out)
             rintro e w30 ⟨v370, rfl, ho0, hb⟩
             refine ⟨_, rfl, ?_⟩
             have n0_ := zE HO375 ho0 hb
             have n1_ := zk (Kd.R_lower (Kd.R_new' ho0 (Kd.R_lt (zR HO375))) (below_size (zB HB)))
             have n2_ := zF HB hb
             clear HO375
             clear HB
             have HO375 := n0_
             have HO371 := n1_
             have HB := n2_
             clear n0_ n1_ n2_
             (try clear hb)
             (try clear hb2)
             (try clear hk)
             (try clear hi)
             (try clear ho0)
             refine hK.out _ _ (((HB.out.cell (World.block_lt_of_cell? w _ hw372_0)).trans hw372_0)) (fun hHeld => ?_)
             clear hK K
             refine zM 39 ?_
             exact norm_ (by simp only [putAll, Act.put, List.setIfInBounds_toArray, List.set_cons_zero, List.set_cons_succ]) (hCont (v370, v374) _ ⟨hHeld, (by (with_reducible repeat (first | apply zs | apply zr | apply zt)); exact Kd.R_mono HO371.out (fun _ hk => hk.2)), (by (with_reducible repeat (first | apply zs | apply zr | apply zt)); exact Kd.R_mono HO375.out (fun _ hk => hk.2)), (zB HB)⟩)
         rintro ⟨v370, v374⟩ w31 ⟨hS_, h0_, h1_, h2_⟩
         have n0_ : Aside0 (Kd.R (Kd.int .i64) 3 w31 w.heap.size (fun k_ => some k_ ≠ (v374 : Value).ownBlock) v370 t369) := ⟨h0_⟩
         have n1_ : Aside0 (Kd.R (Kd.int .i64) 3 w31 w.heap.size (fun k_ => some k_ ≠ (v370 : Value).ownBlock) v374 y373) := ⟨h1_⟩
         have n2_ : Aside0 (Below w.heap.size w w31) := ⟨h2_⟩
         clear HB
         clear h0_ h1_ h2_
         have HO371 := n0_
         have HO375 := n1_
         have HB := n2_
         clear n0_ n1_ n2_
         have hHeld : w31.cell? (ad372.add (x9_2).toNat) = some (.int .i64 (rd l0 x9_2)) := hS_
         obtain ⟨Ao33, co33, eo33⟩ := Kd.R_slice HO375.out
         (first | subst eo33 | (injection eo33 with f1_ f2_ f3_; have f4_ := f1_.symm; have f5_ := f3_.symm; clear f1_ f2_ f3_; subst f4_; subst f5_))
         refine norm_ (a' := ?_) ?_ ?_
         rotate_left
         · simp only [putAll, Act.put, List.setIfInBounds_toArray, List.set_cons_zero, List.set_cons_succ]
           rfl
         refine one_ (i := 9) (N := some 45) #[true, true, true, true, true, true, true, true, true, true, true, true, false] rfl rfl (one_of HT_.out (by kernel_rfl)) (by decide) (fun K hK => ?_)
         refine Kd.R_append_rows_step (Kd.int .i64) (w0 := w) w.heap.size (by rfl) (.tmp 39) (.tmp 44) 22 3 (.int .i64 0) 8 rfl Try.underlying22 info3 rfl (by decide) (by omega) v370 t369 y373 _ _ _ (fun k_ => some k_ ≠ (.slice Ao33 y373.length co33 : Value).ownBlock) (fun _ => False) rfl rfl ?aO ?aR (fun _ _ h => h) (fun _ h => h.elim) ?aF ?aB ?aS ?aL ?_
         (case aR => exact zC (Kd.R_reads' HO375.out).2.2)
         (case aB => exact (zB HB))
         (case aF => exact (fun k_ hk => Kd.fresh' (Kd.R_lt (zR HO375)) k_ hk))
         (case aO => exact (zR HO371))
         (case aS => exact (below_size (zB HB)))
         (case aL => have := LMc24.out; omega)
         intro v377 w32 ho hb hg hat
         rw [← Ny376.out] at ho
         have n0_ := zk (Kd.R_after (ok := (fun _ => True)) (by (with_reducible repeat (first | apply zs | apply zr | apply zt)); first | exact Kd.R_mono HO375.out (fun _ hk => ⟨trivial, hk⟩) | exact Kd.R_mono HO375.out (fun k_ hk => by (have own_ : ∀ (A : Option Addr) (n c : Nat), (Value.slice A n c).ownBlock = A.map Addr.block := fun A n c => by cases A <;> rfl); simp only [own_] at hk ⊢; exact ⟨trivial, hk⟩)) hg hat)
         have n1_ := zk (hb)
         have n2_ := zk (ho)
         clear HO375
         clear HB
         clear HO371
         have HO375 := n0_
         have HB := n1_
         have HO378 := n2_
         clear n0_ n1_ n2_
         clear ho hb hg hat
         obtain ⟨Ao34, co34, eo34⟩ := Kd.R_slice HO378.out
         (first | subst eo34 | (injection eo34 with f1_ f2_ f3_; have f4_ := f1_.symm; have f5_ := f3_.symm; clear f1_ f2_ f3_; subst f4_; subst f5_))
         refine hK.out _ _ (((HB.out.cell (World.block_lt_of_cell? w _ hw372_0)).trans hw372_0)) (fun hHeld => ?_)
         clear hK K
         refine zM 45 ?_
         refine one_ (i := 12) (N := some 48) #[true, true, true, true, true, true, true, true, true, true, true, true, true] rfl rfl (one_of HT_.out (by kernel_rfl)) (by decide) (fun K hK => ?_)
         refine goes_ Try.func265 (by kernel_rfl) rfl #[.slice (some ad372) l0.length c0, .slice A1 l1.length c1, .slice Ao34 y376.length co34, .int .i64 (wrap64 (x9_2 + 1))] (by rfl) rfl rfl (by (try simp only [List.map_toArray, List.map_cons, List.map_nil]); first | done | rfl | (simp only [List.length_drop, List.length_take]; rfl)) ?_
         with_reducible refine (ih k2 (by have := HJ4.out; have := HK2.out; omega) _ _ l0 _ _ l1 _ _ y376 (wrap64 (x9_2 + 1)) true _ ?side1 ?side2 ?side3 ?side4 ?side5 ?side6 A25.out).mono ?_
         (case side1 => exact zC (Kd.C_below HR0.out HB.out))
         (case side2 => exact HC0.out)
         (case side3 => exact zC (Kd.C_below HR1.out HB.out))
         (case side4 => exact HC1.out)
         (case side5 => exact zC (Kd.R_reads' HO378.out).2.2)
         (case side6 => exact (Kd.R_reads' HO378.out).2.1)
         rintro e w35 ⟨rfl, hb⟩
         refine ⟨_, rfl, ?_⟩
         have n0_ := zk (Kd.R_below (zR HO375) hb)
         have n1_ := zk (Kd.R_below (zR HO378) hb)
         have n2_ := zF HB hb
         clear HO375
         clear HO378
         clear HB
         have HO375 := n0_
         have HO378 := n1_
         have HB := n2_
         clear n0_ n1_ n2_
         (try clear hb)
         (try clear hb2)
         (try clear hk)
         (try clear hi)
         refine hK.out _ _ (((HB.out.cell (World.block_lt_of_cell? w _ hw372_0)).trans hw372_0)) (fun hHeld => ?_)
         clear hK K
         refine zM 48 ?_
         refine done_ (done_of HT_.out (by kernel_rfl)) ?_
         try go_wp2
         go_ret
         exact ⟨by first | rfl | (simp [errW_none, errW_some] <;> rfl) | (simp [*, errW_none, errW_some] <;> rfl), by repeat (first | exact HB.out | apply za | apply zd | apply ze)⟩
     rw [if_pos c20] at H
     have c20b0 : ((l2.length : Int) == (l1.length : Int)) = true := beq_iff_eq.mpr c20
     have c20b1 : ((l2.length : Int) != (l1.length : Int)) = false := bne_eq_false_iff_eq.mpr c20
     have c20b2 : (l2.length == l1.length) = true := by first | simpa using c20 | (simp at c20 ⊢; omega)
     clear c20
     obtain rfl := Option.some.inj H
     go_wp2
     go_ret
     exact ⟨by first | rfl | (simp [errW_none, errW_some] <;> rfl) | (simp [*, errW_none, errW_some] <;> rfl), by repeat (first | exact HB.out | apply za | apply zd | apply ze)⟩
   subst c19
   have H1 : (some false) = some r := by rw [if_pos rfl] at H; exact H
   clear H
   have H := H1
   clear H1
   obtain rfl := Option.some.inj H
   go_wp2
   go_ret
   exact ⟨by first | rfl | (simp [errW_none, errW_some] <;> rfl) | (simp [*, errW_none, errW_some] <;> rfl), by repeat (first | exact HB.out | apply za | apply zd | apply ze)⟩

end Go.Proofs.Ytlkddcabjcejdaa.MFnAvoiding
