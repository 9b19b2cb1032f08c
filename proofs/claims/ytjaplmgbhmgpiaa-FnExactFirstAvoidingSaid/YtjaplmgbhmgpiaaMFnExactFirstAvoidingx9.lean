/- The functions that FnExactFirstAvoiding comes to, with a walk for each. Made by this session's own program (wip/tools/mk.py), in the form of the kit's print; walks named in NOTES.md were written by hand. -/
import Derived.Test.YtjaplmgbhmgpiaaMFnExactFirstAvoidingx0
import Derived.Test.YtjaplmgbhmgpiaaMFnExactFirstAvoidingx7
import Derived.Test.YtjaplmgbhmgpiaaMFnExactFirstAvoidingx8
namespace Go.Proofs.Ytjaplmgbhmgpiaa.MFnExactFirstAvoiding
open Go.RowKit Go.Proofs.YtjaplmgbhmgpiaaW.PrintWords Go.Proofs.YtjaplmgbhmgpiaaW.PrintLast Go.Proofs.YtjaplmgbhmgpiaaW.PrintMore
attribute [local go_sem] max2_int min2_int max_two min_two max_three min_three max_four min_four   -- for this text's walks alone
set_option linter.unusedVariables false
set_option linter.unusedSimpArgs false

/-! ### slices_Delete_int_int: function 135 -/
def slices_Delete_int_int.f (l0 : List Int) (a1 : Int) (a2 : Int) : Option (List Int) := if 0 ≤ a1 then (if a1 < a2 then (if a2 ≤ (l0.length : Int) then (some (l0.take a1.toNat ++ l0.drop a2.toNat)) else (none)) else (none)) else (none)
set_option maxHeartbeats 8000000 in
theorem slices_Delete_int_int.calls (P0_ : Nat → Prop) (u9000_ : Value) (l0 : List Int) (a1 : Int) (a2 : Int) (r : List Int) (w0 w : World) (hB : Below w0.heap.size w0 w) (ho0 : Kd.R (Kd.int .i64) 3 w w0.heap.size P0_ u9000_ l0) (h : slices_Delete_int_int.f l0 a1 a2 = some r) :
    Calls Try.prog 135 #[u9000_, .int .i64 a1, .int .i64 a2] w fun e w' => ∃ v0_ : Value, e = .returned (v0_) ∧ Kd.R (Kd.int .i64) 3 w' w0.heap.size (fun k_ => (P0_ k_ ∨ w.heap.size ≤ k_)) v0_ r ∧ Below w0.heap.size w0 w' ∧ Kept w w' (fun k_ => P0_ k_) := by
  unfold slices_Delete_int_int.f at h
  by_cases h1 : 0 ≤ a1
  · rw [if_pos h1] at h
    by_cases h2 : a1 < a2
    · rw [if_pos h2] at h
      by_cases h3 : a2 ≤ (l0.length : Int)
      · rw [if_pos h3] at h
        obtain rfl := Option.some.inj h
        have hok := ho0.1
        have hown := Kd.own_of_R ho0
        obtain ⟨hlen, hv⟩ := hown
        rcases hv with ⟨_, hz⟩ | ⟨g, cap, cur, rfl, hg, hh, hnc, hcm, hcs, ht⟩
        · omega
        · have hP : P0_ g := hok g (by simp [Value.ownBlock])
          have hcap : cap ≤ 9223372036854775807 := by simp only [maxLen] at hcm; omega
          obtain ⟨i, rfl⟩ : ∃ i : Nat, a1 = (i : Int) := ⟨a1.toNat, by omega⟩
          obtain ⟨j, rfl⟩ : ∃ j : Nat, a2 = (j : Int) := ⟨a2.toNat, by omega⟩
          have hRC := (Kd.R_reads' ho0).2.2
          have hcell : ∀ q, q < l0.length → w.cell? ⟨g, 0 + q, none⟩ = some (.int .i64 (l0.getD q 0)) := by
            intro q hq
            obtain ⟨ad, e1, e2⟩ := Kd.at_int hRC (q : Int) (by omega) (by omega)
            cases e1
            rw [add_plain] at e2
            simpa [rd] using e2
          refine (Try.slices_Delete_int_cells g 0 l0.length cap i j l0 w (Nat.le_refl _) hnc hcap (by omega) (by omega) hcell (fun q _ => blk_frozen hh _)).mono ?_
          rintro e w' ⟨rfl, q, rfl⟩
          have hd : (w.drewN q).heap[g]? = some (.cells cur 3 (0, 0)) := hh
          have hl : (((l0.take l0.length).take i ++ (l0.take l0.length).drop j ++ List.replicate (j - i) (0 : Int)).map (Value.int .i64)).length = l0.length := by
            simp; omega
          obtain ⟨cur', c1, c2, c3⟩ := setCells_row (((l0.take l0.length).take i ++ (l0.take l0.length).drop j ++ List.replicate (j - i) (0 : Int)).map (Value.int .i64)) 0 (w.drewN q) cur hd (by rw [hl]; omega)
          obtain ⟨s1, s2, s3, s4⟩ := setCells_same g (((l0.take l0.length).take i ++ (l0.take l0.length).drop j ++ List.replicate (j - i) (0 : Int)).map (Value.int .i64)) 0 (w.drewN q)
          have hfar : ∀ k, k ≠ g → ((w.drewN q).setCells g 0 (((l0.take l0.length).take i ++ (l0.take l0.length).drop j ++ List.replicate (j - i) (0 : Int)).map (Value.int .i64))).heap[k]? = w.heap[k]? := fun k hk => setCells_far _ 0 k hk
          have hr : (l0.take (i : Int).toNat ++ l0.drop (j : Int).toNat).length = l0.length - (j - i) := by simp; omega
          refine ⟨_, rfl, ?_, ⟨s1.trans hB.os, s2.trans hB.tape, s3.trans hB.output, ?_, ?_⟩, ?_, ?_⟩
          · refine Kd.R_of_own ?_ ?_
            · rw [hr]
              refine ⟨by rw [encs_length, hr, Nat.mul_one], .inr ⟨g, cap, cur', rfl, hg, c1, by omega, hcm, by rw [c2, hcs], ?_⟩⟩
              rw [c3]
              simp only [List.take_zero, List.nil_append, Nat.mul_one]
              rw [List.take_append_of_le_length (by rw [hl]; omega), ← List.map_take]
              unfold encs
              congr 1
              rw [List.take_length, List.take_append_of_le_length (by simp; omega), List.take_of_length_le (by simp; omega)]
              simp
            · intro k hk
              have : g = k := by simpa [Value.ownBlock] using hk
              exact .inl (this ▸ hP)
          · rw [s4]; exact hB.size
          · intro k hk
            rw [hfar k (by omega)]
            exact hB.block k hk
          · rw [s4]; exact Nat.le_refl _
          · intro k hk hn
            exact hfar k (fun e => hn (e ▸ hP))
      · rw [if_neg h3] at h; cases h
    · rw [if_neg h2] at h; cases h
  · rw [if_neg h1] at h; cases h

/-! ### impl_orderAt: function 117 -/
def impl_orderAt.l0 : Nat → Int → List Int → List Int → Option (List Int)
  | 0, _, _, _ => none
  | k + 1, x1, x5, x6 => if (x5.length : Int) > 0 then ((impl_factorial.f k (wrap64 ((x5.length : Int) - 1))).bind fun t271 => (if t271 = 0 then (none) else (if 0 ≤ (wrap64 (Int.tdiv x1 t271)) then (if (wrap64 (Int.tdiv x1 t271)) < (x5.length : Int) then (if x6.length < 17592186044416 then ((slices_Delete_int_int.f x5 (wrap64 (Int.tdiv x1 t271)) (wrap64 ((wrap64 (Int.tdiv x1 t271)) + 1))).bind fun t276 => (impl_orderAt.l0 k (Int.tmod x1 t271) t276 (x6 ++ [rd x5 (wrap64 (Int.tdiv x1 t271))]))) else (none)) else (none)) else (none)))) else (some x6)
def impl_orderAt.f (k : Nat) (a0 : Int) (a1 : Int) : Option (List Int) := (impl_sorted.f k a0).bind fun t265 => (impl_orderAt.l0 k a1 t265 (([] : List Int)))
theorem impl_orderAt.mono_l : ∀ k, (∀ y0 y1 y2, LeO (impl_orderAt.l0 k y0 y1 y2) (impl_orderAt.l0 (k + 1) y0 y1 y2))
  | 0 => fun _ _ _ r h => by simp [impl_orderAt.l0] at h
  | k + 1 => by
    have ih0 := impl_orderAt.mono_l k
    · intro y0 y1 y2
      unfold impl_orderAt.l0
      repeat' first
      | (with_reducible exact ih0 _ _ _)
      | (with_reducible exact impl_factorial.mono _ _)
      | (with_reducible exact impl_sorted.mono _ _)
      | (with_reducible exact LeO.refl _)
      | (with_reducible exact LeO.none _)
      | (with_reducible refine LeO.ite ?_ ?_)
      | (with_reducible refine LeO.bind ?_ (fun _ => ?_))
      | exact ih0 _ _ _
      | exact impl_factorial.mono _ _
      | exact impl_sorted.mono _ _
      | exact LeO.none _
      | refine LeO.ite ?_ ?_
      | refine LeO.bind ?_ (fun _ => ?_)
theorem impl_orderAt.mono : ∀ a0 a1 k, LeO (impl_orderAt.f k a0 a1) (impl_orderAt.f (k + 1) a0 a1) := by
  intro a0 a1 k
  have ih0 := impl_orderAt.mono_l k
  unfold impl_orderAt.f
  repeat' first
      | (with_reducible exact ih0 _ _ _)
      | (with_reducible exact impl_factorial.mono _ _)
      | (with_reducible exact impl_sorted.mono _ _)
      | (with_reducible exact LeO.refl _)
      | (with_reducible exact LeO.none _)
      | (with_reducible refine LeO.ite ?_ ?_)
      | (with_reducible refine LeO.bind ?_ (fun _ => ?_))
      | exact ih0 _ _ _
      | exact impl_factorial.mono _ _
      | exact impl_sorted.mono _ _
      | exact LeO.none _
      | refine LeO.ite ?_ ?_
      | refine LeO.bind ?_ (fun _ => ?_)
set_option maxHeartbeats 8000000 in
set_option maxRecDepth 100000 in
theorem impl_orderAt.calls (k : Nat) (a0 : Int) (a1 : Int) (r : List Int) (w : World) (h : impl_orderAt.f k a0 a1 = some r) :
    Calls Try.prog 117 #[.int .i64 a0, .int .i64 a1] w fun e w' => ∃ v0_ : Value, e = .returned (v0_) ∧ Kd.R (Kd.int .i64) 3 w' w.heap.size (fun _ => True) v0_ r ∧ Below w.heap.size w w' := by
  have HB := Aside0.mk (Below.refl w.heap.size w)
  have H : ((impl_sorted.f k a0).bind fun t265 => (impl_orderAt.l0 k a1 t265 (([] : List Int)))) = some r := h
  clear h
  replace H := Option.bind_eq_some_iff.mp H
  obtain ⟨t265, A30, H⟩ := H
  replace H : (impl_orderAt.l0 k a1 t265 (([] : List Int))) = some r := H
  have A3 := Aside0.mk A30
  clear A30
  obtain ⟨y268, hy268⟩ : ∃ y_ : List Int, y_ = (([] : List Int)) := ⟨_, rfl⟩
  replace H : (impl_orderAt.l0 k a1 t265 y268) = some r := by first | (rw [hy268]; with_reducible exact H) | (have H2_ := (Option.bind_some _ _).symm.trans H; rw [hy268]; with_reducible exact H2_) | (have H2_ := (Option.bind_some _ _).symm.trans H; with_reducible exact H2_) | with_reducible exact H | (rw [hy268]; exact H) | exact H
  have Ny268 := Aside0.mk hy268
  clear hy268
  have H' := Aside0.mk H
  clear H
  go_enter Try.func117, Try.ntmps117
  go_wp2_with (first | ((with_reducible refine gate_callee (f := 134) rfl ?_); refine goesL_ (some 10) rfl rfl Try.func134 (by kernel_rfl) rfl #[.int .i64 a0] rfl (by (try simp only [List.map_toArray, List.map_cons, List.map_nil]); first | done | rfl | (simp only [List.length_drop, List.length_take]; rfl)) ?_; (with_reducible refine (impl_sorted.calls k a0 t265 _ A3.out).mono ?_); rintro e w4 ⟨v266, rfl, ho0, hb⟩; refine ⟨_, rfl, ?_⟩; have n0_ := Aside0.mk (Kd.R_lower ho0 (below_size (by repeat (first | (with_reducible first | exact HB.out | apply below_alloc | apply pw_below_drewN | apply below_drew1) | exact HB.out)))); have n1_ := Aside0.mk (below_step (by repeat (first | (with_reducible first | exact HB.out | apply below_alloc | apply pw_below_drewN | apply below_drew1) | exact HB.out)) hb); clear HB; have HO267 := n0_; have HB := n1_; clear n0_ n1_; (try clear hb); (try clear hb2); (try clear hk); (try clear hi); (try clear ho0)) | ((with_reducible refine gate_dst (N := 11) rfl ?_); refine Kd.R_lit (Kd.int .i64) _ 3 ?hg (N := 11) ?hd (xs := ([] : List Int)) (inner := []) (ok := fun _ => True) (okp := fun _ => True) ?hr ?hp (fun _ hk => hk) trivial (Below.refl _ _) (Nat.le_refl _) (by simp) ?_; (case hd => rfl); (case hg => rfl); (case hr => first | (go_simp; done) | (go_simp; rfl)); (case hp => exact (Reps.none _ _)); intro v269 w5 ho6 hb hg_ hnew_; clear hg_ hnew_; (first | rw [← Ny268.out] at ho6 | (simp only [Int.reduceToNat] at ho6; rw [← Ny268.out] at ho6)); have n0_ := Aside0.mk (Kd.R_elder' (by (with_reducible repeat (first | apply Kd.R_alloc | apply Kd.R_drewN | apply Kd.R_drew)); exact HO267.out) (Kd.R_base ho6) hb); have n1_ := Aside0.mk (Kd.R_lower (Kd.R_new' ho6 (Kd.R_lt (by (with_reducible repeat (first | apply Kd.R_alloc | apply Kd.R_drewN | apply Kd.R_drew)); exact HO267.out))) (below_size (by repeat (first | (with_reducible first | exact HB.out | apply below_alloc | apply pw_below_drewN | apply below_drew1) | exact HB.out)))); have n2_ := Aside0.mk (below_step (by repeat (first | (with_reducible first | exact HB.out | apply below_alloc | apply pw_below_drewN | apply below_drew1) | exact HB.out)) hb); clear HO267; clear HB; have HO267 := n0_; have HO270 := n1_; have HB := n2_; clear n0_ n1_ n2_; clear hb ho6))
  go_loopg [1, 5, 6] k (fun kq v1 v5 v6 w' => ∃ (x1_1 : Int) (x5_1 : List Int) (x6_1 : List Int), v1 = .int .i64 x1_1 ∧ Aside0 (impl_orderAt.l0 kq x1_1 x5_1 x6_1 = some r) ∧ Aside0 (kq ≤ k) ∧ Aside0 (Kd.R (Kd.int .i64) 3 w' w.heap.size (fun k_ => some k_ ≠ (v6 : Value).ownBlock) v5 x5_1) ∧ Aside0 (Kd.R (Kd.int .i64) 3 w' w.heap.size (fun k_ => some k_ ≠ (v5 : Value).ownBlock) v6 x6_1) ∧ Aside0 (Below w.heap.size w w'))
  case atStart => exact ⟨(a1), (t265), (y268), (by first | rfl | (simp; done) | (simp [*]; done)), H', ⟨Nat.le_refl _⟩, ⟨by (with_reducible repeat (first | apply Kd.R_alloc | apply Kd.R_drewN | apply Kd.R_drew)); exact Kd.R_mono HO267.out (fun _ hk => hk.2)⟩, ⟨by (with_reducible repeat (first | apply Kd.R_alloc | apply Kd.R_drewN | apply Kd.R_drew)); exact Kd.R_mono HO270.out (fun _ hk => hk.2)⟩, ⟨by repeat (first | (with_reducible first | exact HB.out | apply below_alloc | apply pw_below_drewN | apply below_drew1) | exact HB.out)⟩⟩
  case round =>
    clear H'
    try clear c1
    try clear p2
    obtain ⟨x1_1, x5_1, x6_1, rfl, HA, HK1, HO_5, HO_6, HB⟩ := hrel
    cases gk with
    | zero => exact absurd HA.out (by simp [impl_orderAt.l0])
    | succ k1 =>
      have H := HA.out
      clear HA
      simp only [impl_orderAt.l0] at H
      by_cases c7 : (x5_1.length : Int) > 0
      · rw [if_pos c7] at H
        have c7b0 : decide (0 < (x5_1.length : Int)) = true := decide_eq_true c7
        have c7b1 : decide (0 < x5_1.length) = true := decide_eq_true (by omega)
        have c7b9 : (0 < x5_1.length) := by omega
        clear c7
        replace H := Option.bind_eq_some_iff.mp H
        obtain ⟨t271, A80, H⟩ := H
        replace H : (if t271 = 0 then (none) else (if 0 ≤ (wrap64 (Int.tdiv x1_1 t271)) then (if (wrap64 (Int.tdiv x1_1 t271)) < (x5_1.length : Int) then (if x6_1.length < 17592186044416 then ((slices_Delete_int_int.f x5_1 (wrap64 (Int.tdiv x1_1 t271)) (wrap64 ((wrap64 (Int.tdiv x1_1 t271)) + 1))).bind fun t276 => (impl_orderAt.l0 k1 (Int.tmod x1_1 t271) t276 (x6_1 ++ [rd x5_1 (wrap64 (Int.tdiv x1_1 t271))]))) else (none)) else (none)) else (none))) = some r := H
        have A8 := Aside0.mk A80
        clear A80
        by_cases c9 : t271 = 0
        · rw [if_pos c9] at H
          exact absurd H (by simp)
        · rw [if_neg c9] at H
          have c9b0 : (t271 == 0) = false := beq_eq_false_iff_ne.mpr c9
          have c9b1 : (t271 != 0) = true := bne_iff_ne.mpr c9
          obtain ⟨ji10, hji10⟩ : ∃ j_ : Int, (wrap64 (Int.tdiv x1_1 t271)) = j_ := ⟨_, rfl⟩
          replace H : (if 0 ≤ (ji10) then (if (ji10) < (x5_1.length : Int) then (if x6_1.length < 17592186044416 then ((slices_Delete_int_int.f x5_1 (ji10) (wrap64 ((ji10) + 1))).bind fun t276 => (impl_orderAt.l0 k1 (Int.tmod x1_1 t271) t276 (x6_1 ++ [rd x5_1 (ji10)]))) else (none)) else (none)) else (none)) = some r := by first | (rw [hji10] at H; exact H) | (simp only [hji10] at H ⊢; exact H)
          (try rw [hji10] at A8)
          have hji10w : (IntKind.i64.wrap (Int.tdiv x1_1 t271)) = ji10 := (i64_w _).trans hji10
          by_cases c11 : 0 ≤ (ji10)
          · rw [if_pos c11] at H
            have c11b0 : decide (0 ≤ (ji10)) = true := decide_eq_true c11
            clear c11
            by_cases c12 : (ji10) < (x5_1.length : Int)
            · rw [if_pos c12] at H
              have c12b0 : decide ((ji10) < (x5_1.length : Int)) = true := decide_eq_true c12
              clear c12
              by_cases c13 : x6_1.length < 17592186044416
              · rw [if_pos c13] at H
                have LMc13 := Aside0.mk c13
                clear c13
                obtain ⟨y273, hy273⟩ : ∃ y_ : List Int, y_ = (x6_1 ++ [rd x5_1 (ji10)]) := ⟨_, rfl⟩
                replace H : ((slices_Delete_int_int.f x5_1 (ji10) (wrap64 ((ji10) + 1))).bind fun t276 => (impl_orderAt.l0 k1 (Int.tmod x1_1 t271) t276 y273)) = some r := by first | (rw [hy273]; with_reducible exact H) | (have H2_ := (Option.bind_some _ _).symm.trans H; rw [hy273]; with_reducible exact H2_) | (have H2_ := (Option.bind_some _ _).symm.trans H; with_reducible exact H2_) | with_reducible exact H | (rw [hy273]; exact H) | exact H
                have Ny273 := Aside0.mk hy273
                clear hy273
                replace H := Option.bind_eq_some_iff.mp H
                obtain ⟨t276, A140, H⟩ := H
                replace H : (impl_orderAt.l0 k1 (Int.tmod x1_1 t271) t276 y273) = some r := H
                have A14 := Aside0.mk A140
                clear A140
                have H' := Aside0.mk H
                clear H
                obtain ⟨Ao15, co15, eo15⟩ := Kd.R_slice HO_5.out
                subst eo15
                go_wp2_with (first | ((with_reducible refine gate_callee (f := 116) rfl ?_); refine goesL_ (some 18) rfl rfl Try.func116 (by kernel_rfl) rfl #[.int .i64 (wrap64 ((x5_1.length : Int) - 1))] rfl (by (try simp only [List.map_toArray, List.map_cons, List.map_nil]); first | done | rfl | (simp only [List.length_drop, List.length_take]; rfl)) ?_; (with_reducible refine (impl_factorial.calls k1 (wrap64 ((x5_1.length : Int) - 1)) t271 _ A8.out).mono ?_); rintro e w' ⟨rfl, ⟨nd, rfl⟩⟩; refine ⟨_, rfl, ?_⟩; have p272 : 0 ≤ ((ji10) : Int) := of_decide_eq_true (by first | (with_reducible assumption) | assumption); have q272 : (ji10) < (x5_1.length : Int) := of_decide_eq_true (by first | (with_reducible assumption) | assumption); obtain ⟨ad272, e272, hx272_0⟩ := Kd.at_int (Kd.R_reads' HO_5.out).2.2 (ji10) p272 q272; cases e272; replace p272 := eq_true p272; replace q272 := eq_true q272) | ((with_reducible refine gate_builtin (b := .append) (xs := #[.tmp 25, .tmp 30]) rfl ?_); at_builtin; refine Kd.R_append (Kd.int .i64) (w0 := w) w.heap.size rfl (.tmp 25) (.tmp 30) 22 3 (.int .i64 0) 8 rfl Try.underlying22 info3 rfl (by decide) (by omega) u6 x6_1 (rd x5_1 (ji10)) [.int .i64 (rd x5_1 (ji10))] (fun k_ => some k_ ≠ (.slice (some ad272) x5_1.length co15 : Value).ownBlock) (fun _ => False) rfl rfl ?aP (fun _ hk => hk.elim) ?aF ?aO ?aB ?aS ?aL ?_; (case aP => exact rfl); (case aB => exact (by repeat (first | (with_reducible first | exact HB.out | apply below_alloc | apply pw_below_drewN | apply below_drew1) | exact HB.out))); (case aF => exact (fun k_ hk => Kd.fresh' (Kd.R_lt (by (with_reducible repeat (first | apply Kd.R_alloc | apply Kd.R_drewN | apply Kd.R_drew)); exact HO_5.out)) k_ hk)); (case aO => exact (by (with_reducible repeat (first | apply Kd.R_alloc | apply Kd.R_drewN | apply Kd.R_drew)); exact HO_6.out)); (case aS => exact (below_size (by repeat (first | (with_reducible first | exact HB.out | apply below_alloc | apply pw_below_drewN | apply below_drew1) | exact HB.out)))); (case aL => have := LMc13.out; omega); intro v274 w16 ho hb hg hat; rw [← Ny273.out] at ho; have n0_ := Aside0.mk (Kd.R_after (ok := (fun _ => True)) (by (with_reducible repeat (first | apply Kd.R_alloc | apply Kd.R_drewN | apply Kd.R_drew)); first | exact Kd.R_mono HO_5.out (fun _ hk => ⟨trivial, hk⟩) | exact Kd.R_mono HO_5.out (fun k_ hk => by (have own_ : ∀ (A : Option Addr) (n c : Nat), (Value.slice A n c).ownBlock = A.map Addr.block := fun A n c => by cases A <;> rfl); simp only [own_] at hk ⊢; exact ⟨trivial, hk⟩)) hg hat); have n1_ := Aside0.mk (hb); have n2_ := Aside0.mk (ho); clear HO_5; clear HB; clear HO_6; have HO_5 := n0_; have HB := n1_; have HO275 := n2_; clear n0_ n1_ n2_; clear ho hb hg hat) | ((with_reducible refine gate_callee (f := 135) rfl ?_); refine goesL_ (some 36) rfl rfl Try.func135 (by kernel_rfl) rfl #[.slice (some ad272) x5_1.length co15, .int .i64 ji10, .int .i64 (wrap64 ((ji10) + 1))] rfl (by (try simp only [List.map_toArray, List.map_cons, List.map_nil]); first | done | (simp only [hji10]; rfl) | rfl | (simp only [List.length_drop, List.length_take]; rfl)) ?_; (with_reducible refine (slices_Delete_int_int.calls (fun k_ => some k_ = (.slice (some ad272) x5_1.length co15 : Value).ownBlock) (.slice (some ad272) x5_1.length co15) x5_1 ji10 (wrap64 ((ji10) + 1)) t276 w _ ?side1 ?side2 A14.out).mono ?_); (case side1 => repeat (first | (with_reducible first | exact HB.out | apply below_alloc | apply pw_below_drewN | apply below_drew1) | exact HB.out)); (case side2 => exact Kd.R_tight rfl HO_5.out); rintro e w17 ⟨v277, rfl, ho0, hb, hkp⟩; refine ⟨_, rfl, ?_⟩; have n0_ := Aside0.mk (Kd.R_mono (ok' := fun k_ => some k_ ≠ (v277 : Value).ownBlock) (Kd.R_keptB (HO275.out) hkp (fun k_ hk_ hs_ => (hk_) hs_)) (fun k_ hk_ => fun e_ => Or.elim (ho0.1 k_ e_.symm) (fun hs_ => hk_.2.1 hs_) (fun hn_ => Nat.not_le.2 hk_.2.2 hn_))); have n1_ := Aside0.mk (Kd.R_mono (ok' := fun k_ => some k_ ≠ (v274 : Value).ownBlock) ho0 (fun k_ hk_ => Or.elim hk_ (fun hs_ => fun e_ => (((HO275.out).1 k_ e_.symm)) hs_) (fun hn_ => (Kd.fresh' (Kd.R_lt (by (with_reducible repeat (first | apply Kd.R_alloc | apply Kd.R_drewN | apply Kd.R_drew)); exact HO275.out)) k_ hn_)))); have n2_ := Aside0.mk (hb); clear HO275; clear HB; clear HO_5; have HO275 := n0_; have HO278 := n1_; have HB := n2_; clear n0_ n1_ n2_; (try clear hb); (try clear hkp); (try clear ho0)))
                go_roundg k1
                case measure => have := HK1.out; omega
                case rel => exact ⟨(Int.tmod x1_1 t271), (t276), (y273), (by first | rfl | (simp; done) | (simp [*]; done)), H', ⟨by have := HK1.out; omega⟩, ⟨by (with_reducible repeat (first | apply Kd.R_alloc | apply Kd.R_drewN | apply Kd.R_drew)); exact HO278.out⟩, ⟨by (with_reducible repeat (first | apply Kd.R_alloc | apply Kd.R_drewN | apply Kd.R_drew)); exact HO275.out⟩, ⟨by repeat (first | (with_reducible first | exact HB.out | apply below_alloc | apply pw_below_drewN | apply below_drew1) | exact HB.out)⟩⟩
              · rw [if_neg c13] at H
                exact absurd H (by simp)
            · rw [if_neg c12] at H
              exact absurd H (by simp)
          · rw [if_neg c11] at H
            exact absurd H (by simp)
      · rw [if_neg c7] at H
        have c7b0 : decide (0 < (x5_1.length : Int)) = false := decide_eq_false c7
        have c7b1 : decide (0 < x5_1.length) = false := decide_eq_false (by omega)
        have c7b9 : ¬ (0 < x5_1.length) := by omega
        clear c7
        obtain rfl := Option.some.inj H
        obtain ⟨Ao18, co18, eo18⟩ := Kd.R_slice HO_5.out
        subst eo18
        go_wp2
        go_ret
        exact ⟨_, by first | rfl | (simp [errW_none, errW_some] <;> rfl) | (simp [*, errW_none, errW_some] <;> rfl), by (with_reducible repeat (first | apply Kd.R_alloc | apply Kd.R_drewN | apply Kd.R_drew)); exact Kd.R_mono HO_6.out (fun _ hk => trivial), by repeat (first | (with_reducible first | exact HB.out | apply below_alloc | apply pw_below_drewN | apply below_drew1) | exact HB.out)⟩

/-! ### impl_allOrders: function 76 -/
def impl_allOrders.l0 : Nat → Int → List (List Int) → Int → Int → Option ((List (List Int)))
  | 0, _, _, _, _ => none
  | k + 1, x0, x3, x7, x8 => if x8 < x7 then ((impl_orderAt.f k x0 x8).bind fun t283 => (if x3.length < 5864062014805 then (impl_allOrders.l0 k x0 (x3 ++ [t283]) x7 (wrap64 (x8 + 1))) else (none))) else (some x3)
def impl_allOrders.f (k : Nat) (a0 : Int) : Option ((List (List Int))) := (impl_factorial.f k a0).bind fun t282 => (impl_allOrders.l0 k a0 (([] : List (List Int))) t282 0)
theorem impl_allOrders.mono_l : ∀ k, (∀ y0 y1 y2 y3, LeO (impl_allOrders.l0 k y0 y1 y2 y3) (impl_allOrders.l0 (k + 1) y0 y1 y2 y3))
  | 0 => fun _ _ _ _ r h => by simp [impl_allOrders.l0] at h
  | k + 1 => by
    have ih0 := impl_allOrders.mono_l k
    · intro y0 y1 y2 y3
      unfold impl_allOrders.l0
      repeat' first
      | (with_reducible exact ih0 _ _ _ _)
      | (with_reducible exact impl_factorial.mono _ _)
      | (with_reducible exact impl_orderAt.mono _ _ _)
      | (with_reducible exact LeO.refl _)
      | (with_reducible exact LeO.none _)
      | (with_reducible refine LeO.ite ?_ ?_)
      | (with_reducible refine LeO.bind ?_ (fun _ => ?_))
      | exact ih0 _ _ _ _
      | exact impl_factorial.mono _ _
      | exact impl_orderAt.mono _ _ _
      | exact LeO.none _
      | refine LeO.ite ?_ ?_
      | refine LeO.bind ?_ (fun _ => ?_)
theorem impl_allOrders.mono : ∀ a0 k, LeO (impl_allOrders.f k a0) (impl_allOrders.f (k + 1) a0) := by
  intro a0 k
  have ih0 := impl_allOrders.mono_l k
  unfold impl_allOrders.f
  repeat' first
      | (with_reducible exact ih0 _ _ _ _)
      | (with_reducible exact impl_factorial.mono _ _)
      | (with_reducible exact impl_orderAt.mono _ _ _)
      | (with_reducible exact LeO.refl _)
      | (with_reducible exact LeO.none _)
      | (with_reducible refine LeO.ite ?_ ?_)
      | (with_reducible refine LeO.bind ?_ (fun _ => ?_))
      | exact ih0 _ _ _ _
      | exact impl_factorial.mono _ _
      | exact impl_orderAt.mono _ _ _
      | exact LeO.none _
      | refine LeO.ite ?_ ?_
      | refine LeO.bind ?_ (fun _ => ?_)
set_option maxHeartbeats 8000000 in
set_option maxRecDepth 100000 in
theorem impl_allOrders.calls (k : Nat) (a0 : Int) (r : List (List Int)) (w : World) (h : impl_allOrders.f k a0 = some r) :
    Calls Try.prog 76 #[.int .i64 a0] w fun e w' => ∃ v0_ : Value, e = .returned (v0_) ∧ Kd.S (Kd.slice 3 (Kd.int .i64)) 22 w' w.heap.size (fun _ => True) v0_ r ∧ Below w.heap.size w w' := by
  have HB := Aside0.mk (Below.refl w.heap.size w)
  have H : ((impl_factorial.f k a0).bind fun t282 => (impl_allOrders.l0 k a0 (([] : List (List Int))) t282 0)) = some r := h
  clear h
  obtain ⟨y279, hy279⟩ : ∃ y_ : List (List Int), y_ = (([] : List (List Int))) := ⟨_, rfl⟩
  replace H : ((impl_factorial.f k a0).bind fun t282 => (impl_allOrders.l0 k a0 y279 t282 0)) = some r := by first | (rw [hy279]; with_reducible exact H) | (have H2_ := (Option.bind_some _ _).symm.trans H; rw [hy279]; with_reducible exact H2_) | (have H2_ := (Option.bind_some _ _).symm.trans H; with_reducible exact H2_) | with_reducible exact H | (rw [hy279]; exact H) | exact H
  have Ny279 := Aside0.mk hy279
  clear hy279
  replace H := Option.bind_eq_some_iff.mp H
  obtain ⟨t282, A20, H⟩ := H
  replace H : (impl_allOrders.l0 k a0 y279 t282 0) = some r := H
  have A2 := Aside0.mk A20
  clear A20
  have H' := Aside0.mk H
  clear H
  go_enter Try.func76, Try.ntmps76
  go_wp2_with (first | ((with_reducible refine gate_dst (N := 5) rfl ?_); refine Kd.S_lit (Kd.slice 3 (Kd.int .i64)) _ 22 ?hg (N := 5) ?hd (xs := ([] : List (List Int))) (inner := []) (ok := fun _ => True) (okp := fun _ => True) ?hr ?hp (fun _ hk => hk) trivial (Below.refl _ _) (Nat.le_refl _) (by simp) ?_; (case hd => rfl); (case hg => rfl); (case hr => first | (go_simp; done) | (go_simp; rfl)); (case hp => exact (Reps.none _ _)); intro v280 w3 ho4 hb hg_ hnew_; clear hg_ hnew_; (first | rw [← Ny279.out] at ho4 | (simp only [Int.reduceToNat] at ho4; rw [← Ny279.out] at ho4)); have n0_ := Aside0.mk (Kd.S_lower ho4 (below_size (by repeat (first | (with_reducible first | exact HB.out | apply below_alloc | apply pw_below_drewN | apply below_drew1) | exact HB.out)))); have n1_ := Aside0.mk (below_step (by repeat (first | (with_reducible first | exact HB.out | apply below_alloc | apply pw_below_drewN | apply below_drew1) | exact HB.out)) hb); clear HB; have HO281 := n0_; have HB := n1_; clear n0_ n1_; clear hb ho4) | ((with_reducible refine gate_callee (f := 116) rfl ?_); refine goesL_ (some 7) rfl rfl Try.func116 (by kernel_rfl) rfl #[.int .i64 a0] rfl (by (try simp only [List.map_toArray, List.map_cons, List.map_nil]); first | done | rfl | (simp only [List.length_drop, List.length_take]; rfl)) ?_; (with_reducible refine (impl_factorial.calls k a0 t282 _ A2.out).mono ?_); rintro e w' ⟨rfl, ⟨nd, rfl⟩⟩; refine ⟨_, rfl, ?_⟩))
  go_loopg [3, 8] k (fun kq v3 v8 w' => ∃ (x3_1 : List (List Int)) (x8_1 : Int), v8 = .int .i64 x8_1 ∧ Aside0 (impl_allOrders.l0 kq a0 x3_1 t282 x8_1 = some r) ∧ Aside0 (kq ≤ k) ∧ Aside0 (Kd.S (Kd.slice 3 (Kd.int .i64)) 22 w' w.heap.size (fun _ => True) v3 x3_1) ∧ Aside0 (Below w.heap.size w w'))
  case atStart => exact ⟨(y279), (0), (by first | rfl | (simp; done) | (simp [*]; done)), H', ⟨Nat.le_refl _⟩, ⟨by (with_reducible repeat (first | apply Kd.S_alloc | apply Kd.S_drewN | apply Kd.S_drew)); exact HO281.out⟩, ⟨by repeat (first | (with_reducible first | exact HB.out | apply below_alloc | apply pw_below_drewN | apply below_drew1) | exact HB.out)⟩⟩
  case round =>
    clear H'
    try clear c1
    try clear p2
    obtain ⟨x3_1, x8_1, rfl, HA, HK1, HO_3, HB⟩ := hrel
    cases gk with
    | zero => exact absurd HA.out (by simp [impl_allOrders.l0])
    | succ k1 =>
      have H := HA.out
      clear HA
      simp only [impl_allOrders.l0] at H
      by_cases c5 : x8_1 < t282
      · rw [if_pos c5] at H
        have c5b0 : decide (x8_1 < t282) = true := decide_eq_true c5
        clear c5
        replace H := Option.bind_eq_some_iff.mp H
        obtain ⟨t283, A60, H⟩ := H
        replace H : (if x3_1.length < 5864062014805 then (impl_allOrders.l0 k1 a0 (x3_1 ++ [t283]) t282 (wrap64 (x8_1 + 1))) else (none)) = some r := H
        have A6 := Aside0.mk A60
        clear A60
        by_cases c7 : x3_1.length < 5864062014805
        · rw [if_pos c7] at H
          have LMc7 := Aside0.mk c7
          clear c7
          obtain ⟨y286, hy286⟩ : ∃ y_ : List (List Int), y_ = (x3_1 ++ [t283]) := ⟨_, rfl⟩
          replace H : (impl_allOrders.l0 k1 a0 y286 t282 (wrap64 (x8_1 + 1))) = some r := by first | (rw [hy286]; with_reducible exact H) | (have H2_ := (Option.bind_some _ _).symm.trans H; rw [hy286]; with_reducible exact H2_) | (have H2_ := (Option.bind_some _ _).symm.trans H; with_reducible exact H2_) | with_reducible exact H | (rw [hy286]; exact H) | exact H
          have Ny286 := Aside0.mk hy286
          clear hy286
          have H' := Aside0.mk H
          clear H
          go_wp2_with (first | ((with_reducible refine gate_callee (f := 117) rfl ?_); refine goesL_ (some 14) rfl rfl Try.func117 (by kernel_rfl) rfl #[.int .i64 a0, .int .i64 x8_1] rfl (by (try simp only [List.map_toArray, List.map_cons, List.map_nil]); first | done | rfl | (simp only [List.length_drop, List.length_take]; rfl)) ?_; (with_reducible refine (impl_orderAt.calls k1 a0 x8_1 t283 _ A6.out).mono ?_); rintro e w8 ⟨v284, rfl, ho0, hb⟩; refine ⟨_, rfl, ?_⟩; have n0_ := Aside0.mk (Kd.S_elder' (by (with_reducible repeat (first | apply Kd.S_alloc | apply Kd.S_drewN | apply Kd.S_drew)); exact HO_3.out) (Kd.R_base ho0) hb); have n1_ := Aside0.mk (Kd.R_lower ho0 (below_size (by repeat (first | (with_reducible first | exact HB.out | apply below_alloc | apply pw_below_drewN | apply below_drew1) | exact HB.out)))); have n2_ := Aside0.mk (below_step (by repeat (first | (with_reducible first | exact HB.out | apply below_alloc | apply pw_below_drewN | apply below_drew1) | exact HB.out)) hb); clear HO_3; clear HB; have HO_3 := n0_; have HO285 := n1_; have HB := n2_; clear n0_ n1_ n2_; (try clear hb); (try clear hb2); (try clear hk); (try clear hi); (try clear ho0); obtain ⟨Ao10, co10, eo10⟩ := Kd.R_slice HO285.out; subst eo10) | ((with_reducible refine gate_builtin (b := .append) (xs := #[.tmp 11, .tmp 15]) rfl ?_); at_builtin; refine Kd.S_append (Kd.slice 3 (Kd.int .i64)) (w0 := w) w.heap.size rfl (.tmp 11) (.tmp 15) 40 22 (.slice none 0 0) 24 rfl Try.underlying40 info22 rfl (by decide) (by omega) u3 x3_1 t283 [.slice Ao10 t283.length co10] (fun _ => True) (fun k_ => some k_ = (.slice Ao10 t283.length co10 : Value).ownBlock) rfl rfl ?aP (fun k_ hk_ => ((Kd.R_mono (ok' := fun k_ => ((fun _ => True)) k_ ∧ some k_ ≠ (u3 : Value).ownBlock) (Kd.R_apart' (HO285.out) (Kd.S_typed HO_3.out) (by decide)) (fun k_ hk => ⟨trivial, hk.2⟩))).1 k_ hk_.symm) ?aF ?aO ?aB ?aS ?aL ?_; (case aP => exact Kd.M_row (Kd.R_mono (Kd.R_tight rfl (Kd.R_mono (ok' := fun k_ => ((fun _ => True)) k_ ∧ some k_ ≠ (u3 : Value).ownBlock) (Kd.R_apart' (HO285.out) (Kd.S_typed HO_3.out) (by decide)) (fun k_ hk => ⟨trivial, hk.2⟩))) (fun _ h_ => h_))); (case aB => exact (by repeat (first | (with_reducible first | exact HB.out | apply below_alloc | apply pw_below_drewN | apply below_drew1) | exact HB.out))); (case aF => exact (fun _ _ => trivial)); (case aO => exact (by (with_reducible repeat (first | apply Kd.S_alloc | apply Kd.S_drewN | apply Kd.S_drew)); exact Kd.S_mono HO_3.out (fun k_ hk => ⟨trivial, fun e_ => hk.2 e_⟩))); (case aS => exact (below_size (by repeat (first | (with_reducible first | exact HB.out | apply below_alloc | apply pw_below_drewN | apply below_drew1) | exact HB.out)))); (case aL => have := LMc7.out; omega); intro v287 w9 ho hb hg hat; rw [← Ny286.out] at ho; have n0_ := Aside0.mk (hb); have n1_ := Aside0.mk (ho); clear HB; clear HO_3; clear HO285; have HB := n0_; have HO288 := n1_; clear n0_ n1_; clear ho hb hg hat))
          go_roundg k1
          case measure => have := HK1.out; omega
          case rel => exact ⟨(y286), (wrap64 (x8_1 + 1)), (by first | rfl | (simp; done) | (simp [*]; done)), H', ⟨by have := HK1.out; omega⟩, ⟨by (with_reducible repeat (first | apply Kd.S_alloc | apply Kd.S_drewN | apply Kd.S_drew)); exact HO288.out⟩, ⟨by repeat (first | (with_reducible first | exact HB.out | apply below_alloc | apply pw_below_drewN | apply below_drew1) | exact HB.out)⟩⟩
        · rw [if_neg c7] at H
          exact absurd H (by simp)
      · rw [if_neg c5] at H
        have c5b0 : decide (x8_1 < t282) = false := decide_eq_false c5
        clear c5
        obtain rfl := Option.some.inj H
        go_wp2
        go_ret
        exact ⟨_, by first | rfl | (simp [errW_none, errW_some] <;> rfl) | (simp [*, errW_none, errW_some] <;> rfl), by (with_reducible repeat (first | apply Kd.S_alloc | apply Kd.S_drewN | apply Kd.S_drew)); exact HO_3.out, by repeat (first | (with_reducible first | exact HB.out | apply below_alloc | apply pw_below_drewN | apply below_drew1) | exact HB.out)⟩

/-! ### impl_avoiding: function 85 -/
section
open Go.Proofs.Ytjaplmgbhmgpiaa.Base
set_option maxHeartbeats 8000000 in
set_option maxRecDepth 100000 in
theorem indexFunc_av2 (c1_ : Value) (bad : List Int → Bool) (rows : List (List Int)) (A0 : Option Addr) (c0 : Nat) (w : World) (hr0 : Kd.C (Kd.slice 3 (Kd.int .i64)) w A0 rows.length rows) (hc0 : rows.length ≤ c0) (hlen : rows.length ≤ 4611686018427387904)
    (hcb : ∀ W A c xs, Below w.heap.size w W → xs ∈ rows → Kd.C (Kd.int .i64) W A xs.length xs → xs.length ≤ c → Calls Try.prog 121 #[.slice A xs.length c, c1_] W fun e w' => e = .returned (.bool (bad xs)) ∧ Below W.heap.size W w') :
    Calls Try.prog 115 #[.slice A0 rows.length c0, .func (.func 121) #[] #[c1_]] w fun e w' => e = .returned (.int .i64 (idxGo bad rows 0)) ∧ Below w.heap.size w w' := by
  have HR0 := Aside0.mk hr0
  have HCB := Aside0.mk hcb
  obtain ⟨R, hR⟩ : ∃ R, idxGo bad rows 0 = R := ⟨_, rfl⟩
  rw [hR]
  have HP := Aside0.mk hR
  clear hR hr0 hcb
  go_enter Try.func115, Try.ntmps115
  go_wp2
  go_loopg [8] rows.length (fun kq v8 wr => ∃ (pre suf : List (List Int)), v8 = .int .i64 (pre.length : Int) ∧ kq = suf.length ∧ Aside0 (rows = pre ++ suf) ∧ Aside0 (idxGo bad suf (pre.length : Int) = R) ∧ Aside0 (Below w.heap.size w wr))
  case atStart => exact ⟨[], rows, rfl, rfl, ⟨rfl⟩, HP, ⟨Below.refl _ _⟩⟩
  case round =>
    clear HP
    obtain ⟨pre, suf, rfl, rfl, HL, HP, HB⟩ := hrel
    cases suf with
    | nil =>
      have hl : rows.length = pre.length := by rw [HL.out]; simp
      have hg : ¬ ((pre.length : Int) < (rows.length : Int)) := by omega
      have hgb : decide ((pre.length : Int) < (rows.length : Int)) = false := decide_eq_false hg
      have e := HP.out
      simp only [idxGo] at e
      subst e
      clear hl
      go_wp2
      go_ret
      exact ⟨rfl, HB.out⟩
    | cons x t =>
      have hl : rows.length = pre.length + (t.length + 1) := by rw [HL.out]; simp
      have hg : (pre.length : Int) < (rows.length : Int) := by omega
      have hgb : decide ((pre.length : Int) < (rows.length : Int)) = true := decide_eq_true hg
      have hrd : rows.getD pre.length [] = x := by rw [HL.out]; simp
      obtain ⟨ad, A1, c1, e1, hx, hl1, hi1⟩ := row_at HR0.out (pre.length : Int) (by omega) hg
      cases e1
      rw [show ((pre.length : Int)).toNat = pre.length by omega, hrd] at hx hl1 hi1
      replace hx := pw_cell_below_ HB.out hx
      have HI1 := Aside0.mk (Kd.C_below hi1 HB.out)
      have HL1 := Aside0.mk hl1
      have HM := Aside0.mk (show x ∈ rows by rw [HL.out]; simp)
      have hb1 : (pre.length : Int) ≤ 4611686018427387904 := by omega
      clear hl hrd hi1 hl1
      cases hbx : bad x with
      | true =>
        have H := HCB.out wr A1 c1 x HB.out HM.out HI1.out HL1.out
        rw [hbx] at H
        have HH := Aside0.mk H
        have e := HP.out
        simp only [idxGo, hbx, if_true] at e
        subst e
        clear H hbx
        go_wp2_with (go_at_call 121; refine HH.out.mono ?_; rintro e_ w2 ⟨rfl, hb2⟩; have HX := Aside0.mk hb2; clear hb2)
        go_ret
        exact ⟨rfl, below_step HB.out HX.out⟩
      | false =>
        have H := HCB.out wr A1 c1 x HB.out HM.out HI1.out HL1.out
        rw [hbx] at H
        have HH := Aside0.mk H
        have e := HP.out
        simp only [idxGo, hbx, Bool.false_eq_true, if_false] at e
        have HP2 := Aside0.mk e
        clear H hbx e
        go_wp2_with (go_at_call 121; refine HH.out.mono ?_; rintro e_ w2 ⟨rfl, hb2⟩; have HX := Aside0.mk hb2; clear hb2)
        go_roundg t.length
        case measure => simp
        case rel => exact ⟨pre ++ [x], t, by simp, rfl, ⟨by rw [HL.out]; simp⟩, ⟨by have := HP2.out; simpa using this⟩, ⟨below_step HB.out HX.out⟩⟩
set_option maxHeartbeats 8000000 in
set_option maxRecDepth 100000 in
theorem containsFunc_av2 (c1_ : Value) (bad : List Int → Bool) (rows : List (List Int)) (A0 : Option Addr) (c0 : Nat) (w : World) (hr0 : Kd.C (Kd.slice 3 (Kd.int .i64)) w A0 rows.length rows) (hc0 : rows.length ≤ c0) (hlen : rows.length ≤ 4611686018427387904)
    (hcb : ∀ W A c xs, Below w.heap.size w W → xs ∈ rows → Kd.C (Kd.int .i64) W A xs.length xs → xs.length ≤ c → Calls Try.prog 121 #[.slice A xs.length c, c1_] W fun e w' => e = .returned (.bool (bad xs)) ∧ Below W.heap.size W w') :
    Calls Try.prog 109 #[.slice A0 rows.length c0, .func (.func 121) #[] #[c1_]] w fun e w' => e = .returned (.bool (rows.any bad)) ∧ Below w.heap.size w w' := by
  have H := indexFunc_av2 c1_ bad rows A0 c0 w hr0 hc0 hlen hcb
  have hi := idxGo_any bad rows 0 (by omega)
  obtain ⟨R, hR⟩ : ∃ R, idxGo bad rows 0 = R := ⟨_, rfl⟩
  rw [hR] at H hi
  rw [← hi]
  have HH := Aside0.mk H
  clear H hi hR hcb hr0
  cases hd : decide (0 ≤ R) with
  | true =>
    have h0 : 0 ≤ R := of_decide_eq_true hd
    clear hd
    go_enter Try.func109, Try.ntmps109
    go_wp2_with (go_at_call 115; refine HH.out.mono ?_; rintro e_ w2 ⟨rfl, hb2⟩; have HX := Aside0.mk hb2; clear hb2)
    go_ret
    exact ⟨by simp [h0], HX.out⟩
  | false =>
    have h0 : ¬ 0 ≤ R := of_decide_eq_false hd
    clear hd
    go_enter Try.func109, Try.ntmps109
    go_wp2_with (go_at_call 115; refine HH.out.mono ?_; rintro e_ w2 ⟨rfl, hb2⟩; have HX := Aside0.mk hb2; clear hb2)
    go_ret
    exact ⟨by simp [h0], HX.out⟩
set_option maxHeartbeats 8000000 in
set_option maxRecDepth 100000 in
theorem deleteFunc_av2 (c1_ : Value) (bad : List Int → Bool) (xs : List (List Int)) (w : World) (base g cap : Nat) (ok : Nat → Prop) (hS : Kd.S (Kd.slice 3 (Kd.int .i64)) 22 w base ok (.slice (some ⟨g, 0, none⟩) xs.length cap) xs) (hlen : xs.length ≤ 4611686018427387904)
    (hcb : ∀ W A c x, Fr (fun k => k = g) w W → x ∈ xs → Kd.C (Kd.int .i64) W A x.length x → x.length ≤ c → Calls Try.prog 121 #[.slice A x.length c, c1_] W fun e w' => e = .returned (.bool (bad x)) ∧ Below W.heap.size W w') :
    Calls Try.prog 75 #[.slice (some ⟨g, 0, none⟩) xs.length cap, .func (.func 121) #[] #[c1_]] w fun e w' => e = .returned (.slice (some ⟨g, 0, none⟩) (xs.filter (fun x => !bad x)).length cap) ∧ Kd.S (Kd.slice 3 (Kd.int .i64)) 22 w' base (fun _ => True) (.slice (some ⟨g, 0, none⟩) (xs.filter (fun x => !bad x)).length cap) (xs.filter (fun x => !bad x)) ∧ Fr (fun k => k = g) w w' := by
  have HI := Aside0.mk (indexFunc_av2 c1_ bad xs (some ⟨g, 0, none⟩) cap w (Kd.S_reads' hS).2.2 (Kd.S_reads' hS).2.1 hlen (fun W A c x hb hx hC hc => hcb W A c x (Fr.of_below hb) hx hC hc))
  have HCB := Aside0.mk hcb
  have HS := Aside0.mk hS
  obtain ⟨R, hR⟩ : ∃ R, idxGo bad xs 0 = R := ⟨_, rfl⟩
  rw [hR] at HI
  have hi := idxGo_iff bad xs 0 (Int.le_refl _)
  rw [hR] at hi
  by_cases hneg : 0 ≤ R
  · obtain ⟨pre0, c0, suf0, hxs, hRe, hgood, hbad⟩ := idxGo_split bad xs 0 R (Int.le_refl _) hR hneg
    rw [Int.zero_add] at hRe
    obtain ⟨cs, ps, hblk, hbg, hcl, _, hnc, hcm, htk, hsnd, hV⟩ := S_open hS
    have hpl : ps.length = xs.length := by rw [← hsnd]; simp
    obtain ⟨pre1, suf1, hDI, hpre1⟩ := DI.start (bad := bad) (cap := cap) (cs := cs) (by rw [hsnd]; exact hxs) hcl (by omega) (by rw [hpl]; exact htk) hgood hbad
    have HV := Aside0.mk hV
    have HSND := Aside0.mk hsnd
    have HPL := Aside0.mk hpl
    have HBLK := Aside0.mk hblk
    have HDI := Aside0.mk hDI
    have HP1 := Aside0.mk hpre1
    have HCM := Aside0.mk (And.intro hbg (And.intro hnc hcm))
    have hpre : (pre0.length : Int) ≤ 4611686018427387903 := by have := congrArg List.length hxs; simp at this; omega
    have hR1 : ((pre0.length : Int) == -1) = false := by simp
    have hw1 : wrap64 ((pre0.length : Int) + 1) = (pre0.length : Int) + 1 := by unfold wrap64; omega
    subst hRe
    clear hS hcb hR hi hneg hgood hbad hblk htk hsnd hV hDI hpl hcm hxs hcl hpre1 hbg hnc
    go_enter Try.func75, Try.ntmps75
    go_wp2_with (go_at_call 115; refine HI.out.mono ?_; rintro e_ w2 ⟨rfl, hb2⟩; have HB2 := Aside0.mk hb2; clear hb2)
    go_loopg [5, 6] suf1.length (fun kq v5 v6 wr => ∃ (pre suf : List (Value × List Int)) (cs : List Value) (i : Nat), v5 = .int .i64 (i : Int) ∧ v6 = .int .i64 (pre.length : Int) ∧ kq = suf.length ∧ Aside0 (wr.heap[g]? = some (.cells cs.toArray 22 (0, 0))) ∧ Aside0 (DI bad cap ps cs pre suf i) ∧ Aside0 (Fr (fun k => k = g) w wr))
    case atStart =>
      refine ⟨pre1, suf1, cs, pre0.length, rfl, ?_, rfl, ⟨blk_fr HBLK.out (Fr.of_below (S := fun _ => False) HB2.out) (fun h => h)⟩, HDI, ⟨Fr.of_below HB2.out⟩⟩
      rw [HP1.out]; simp
    case round =>
      clear HI HB2 HDI HP1 hw1 hR1
      obtain ⟨pre, suf, cs, i, rfl, rfl, rfl, HBK, HD, HF⟩ := hrel
      have hbd := HD.out.bound
      have hpl := HPL.out
      have hlt := HD.out.lt
      have hcl := HD.out.len
      obtain ⟨_, hnc, hcm⟩ := HCM.out
      cases suf with
      | nil =>
        simp only [List.length_nil, Nat.add_zero] at hbd
        have hg : ¬ ((pre.length : Int) < (xs.length : Int)) := by omega
        have hgb : decide ((pre.length : Int) < (xs.length : Int)) = false := decide_eq_false hg
        have hcells : ∀ t, t < xs.length - i → (wr.cell? ⟨g, i + t, none⟩).isSome = true := fun t ht => by
          rw [blk_cell HBK.out]
          have : i + t < cs.length := by omega
          simp [List.getElem?_eq_getElem this]
        have hcl0 := fun ty => Lib.run_clear_slice (P := Try.prog) wr 40 22 ty (.slice none 0 0) Try.underlying40 Try.zeroValue22 rfl rfl g i (xs.length - i) (cap - i) (by omega) hcells (fun t _ => blk_frozen HBK.out _)
        obtain ⟨cur, hb2, hs2, hl2⟩ := setCells_row (List.replicate (xs.length - i) (.slice none 0 0)) i wr cs.toArray HBK.out (by simp; omega)
        have hFr : Fr (fun k => k = g) w (wr.setCells g i (List.replicate (xs.length - i) (.slice none 0 0))) := HF.out.trans (Fr.setCells (S := fun k => k = g) rfl _ _ _)
        have hkeep : (ps.filter (fun p => !bad p.2)).map (·.2) = xs.filter (fun x => !bad x) := by
          rw [← HSND.out, List.filter_map]; rfl
        have hall := HD.out.all
        rw [List.append_nil] at hall
        have hki := HD.out.ki
        have hhd := HD.out.head
        rw [← hall] at hki hhd
        have hil : (xs.filter (fun x => !bad x)).length = i := by rw [← hkeep, List.length_map, hki]
        have hcur : cur.toList.take i = (ps.filter (fun p => !bad p.2)).map (·.1) := by
          rw [hl2, List.take_append_of_le_length (by simp; omega), List.take_append_of_le_length (by simp; omega)]
          rw [← hhd, List.take_take, Nat.min_self]
        have hsz : cur.toList.length = cap := by rw [Array.length_toList, hs2]; simpa using hcl
        have hclose := S_close (base := base) (cs := cur.toList) (by simpa using hb2) HCM.out.1 (show i ≤ cur.toList.length by omega) (by rw [hsz]; exact hcm) hcur ((HV.out.fr hFr).sub List.filter_sublist)
        rw [hkeep, hsz] at hclose
        have HIL := Aside0.mk hil
        have HX := Aside0.mk (And.intro hclose hFr)
        have hic : i < cap := by omega
        have hic2 : ¬ cap = i := by omega
        have hii : (i : Int) ≤ (xs.length : Int) := by omega
        clear hclose hFr hkeep hall hki hhd hil hcur hsz hb2 hs2 hl2 hcells hlt hbd hcl hpl
        go_wp2
        go_ret
        exact ⟨by rw [HIL.out]; rfl, by rw [HIL.out]; exact HX.out.1, HX.out.2⟩
      | cons p t =>
        simp only [List.length_cons] at hbd
        have hg : (pre.length : Int) < (xs.length : Int) := by omega
        have hgb : decide ((pre.length : Int) < (xs.length : Int)) = true := decide_eq_true hg
        obtain ⟨v, x⟩ := p
        have hpm : (v, x) ∈ ps := by rw [HD.out.all]; simp
        obtain ⟨A, c, e⟩ := Kd.R_slice (HV.out.row _ hpm)
        simp only at e
        subst e
        have hR := (HV.out.fr HF.out).row _ hpm
        have hcell : wr.cell? ⟨g, pre.length, none⟩ = some (.slice A x.length c) := by rw [blk_cell HBK.out]; simpa using HD.out.cell
        have hxm : x ∈ xs := by rw [← HSND.out]; exact List.mem_map_of_mem (f := (·.2)) hpm
        have H := HCB.out wr A c x HF.out hxm (Kd.R_reads' hR).2.2 (Kd.R_reads' hR).2.1
        have hb1 : (pre.length : Int) ≤ 4611686018427387904 := by omega
        have hib : (i : Int) ≤ 4611686018427387904 := by omega
        have hix : (i : Int) < (xs.length : Int) := by omega
        have hixn : i < xs.length := by omega
        have hold : ∃ old, cs[i]? = some old := ⟨cs[i]'(by omega), List.getElem?_eq_getElem _⟩
        obtain ⟨old, hold⟩ := hold
        have HOLD := Aside0.mk hold
        clear hR hbd hpl hlt hcl hold hxm hpm
        cases hbx : bad x with
        | true =>
          rw [hbx] at H
          have HH := Aside0.mk H
          have HBX := Aside0.mk hbx
          clear H hbx
          go_wp2_with (go_at_call 121; refine HH.out.mono ?_; rintro e_ w6 ⟨rfl, hb6⟩; have HX := Aside0.mk hb6; clear hb6)
          go_roundg t.length
          case measure => simp
          case rel => exact ⟨pre ++ [(.slice A x.length c, x)], t, cs, i, rfl, by simp [wrap64], rfl, ⟨blk_below HBK.out HX.out⟩, ⟨HD.out.skip HBX.out⟩, ⟨HF.out.trans (Fr.of_below HX.out)⟩⟩
        | false =>
          rw [hbx] at H
          have HH := Aside0.mk H
          have HBX := Aside0.mk hbx
          clear H hbx
          go_wp2_with (go_at_call 121; refine HH.out.mono ?_; rintro e_ w6 ⟨rfl, hb6⟩; have HX := Aside0.mk hb6; have ci := (blk_cell (blk_below HBK.out hb6) i).trans (show cs.toArray[i]? = some old by simpa using HOLD.out); have fi := blk_frozen (blk_below HBK.out hb6) i; clear hb6)
          go_roundg t.length
          case measure => simp
          case rel => exact ⟨pre ++ [(.slice A x.length c, x)], t, cs.set i (.slice A x.length c), i + 1, by simp [wrap64], by simp [wrap64], rfl, ⟨by have := blk_set (blk_below HBK.out HX.out) i (.slice A x.length c); simpa using this⟩, ⟨HD.out.keep HBX.out⟩, ⟨(HF.out.trans (Fr.of_below HX.out)).trans (Fr.set (S := fun k => k = g) rfl _ _)⟩⟩
  · have hn : xs.any bad = false := by
      cases h : xs.any bad with
      | false => rfl
      | true => exact absurd (hi.2 h) hneg
    have hf : xs.filter (fun x => !bad x) = xs := by
      rw [List.filter_eq_self]
      intro x hx
      have := (List.any_eq_false.1 hn) x hx
      simpa using this
    have hm : R = -1 := by
      have key : ∀ (s : List (List Int)) (i : Int), (∀ x ∈ s, ¬ bad x = true) → idxGo bad s i = -1 := by
        intro s
        induction s with
        | nil => intro i _; rfl
        | cons c s ih =>
          intro i h
          simp only [idxGo]
          rw [if_neg (h c (by simp))]
          exact ih _ (fun x hx => h x (by simp [hx]))
      rw [← hR]; exact key xs 0 (List.any_eq_false.1 hn)
    subst hm
    rw [hf]
    clear hS hcb hR hi hneg hn hf
    go_enter Try.func75, Try.ntmps75
    go_wp2_with (go_at_call 115; refine HI.out.mono ?_; rintro e_ w2 ⟨rfl, hb2⟩; have HB2 := Aside0.mk hb2; clear hb2)
    go_ret
    exact ⟨rfl, Kd.S_mono (Kd.S_below HS.out HB2.out) (fun _ _ => trivial), Fr.of_below HB2.out⟩
set_option maxHeartbeats 8000000 in
set_option maxRecDepth 100000 in
theorem avoiding_cb (l1 : List (List Int)) (A1 : Option Addr) (c1 : Nat) (gb : Nat) (w0 W : World) (hb0 : Below w0.heap.size w0 W) (hgb : W.heap[gb]? = some (.cells #[.slice A1 l1.length c1] 40 (0, 0))) (hr1 : Kd.C (Kd.slice 3 (Kd.int .i64)) w0 A1 l1.length l1) (hc1 : l1.length ≤ c1)
    (A : Option Addr) (c : Nat) (x : List Int) (b : Bool) (hx : impl_avoids.f x l1 = some b) (hC : Kd.C (Kd.int .i64) W A x.length x) (hc : x.length ≤ c) :
    Calls Try.prog 121 #[.slice A x.length c, .pointer (some ⟨gb, 0, none⟩)] W fun e w' => e = .returned (.bool (!b)) ∧ Below W.heap.size W w' := by
  have H := impl_avoids.calls A c x A1 c1 l1 b W hC hc (Kd.C_below hr1 hb0) hc1 hx
  have HH := Aside0.mk H
  have cg := cell_of_one hgb
  clear H hC hr1 hb0 hgb hx
  cases b with
  | true =>
    go_enter Try.func121, Try.ntmps121
    go_wp2_with (go_at_call 70; refine HH.out.mono ?_; rintro e_ w2 ⟨rfl, hb2⟩; have HX := Aside0.mk hb2; clear hb2)
    go_ret
    exact ⟨rfl, HX.out⟩
  | false =>
    go_enter Try.func121, Try.ntmps121
    go_wp2_with (go_at_call 70; refine HH.out.mono ?_; rintro e_ w2 ⟨rfl, hb2⟩; have HX := Aside0.mk hb2; clear hb2)
    go_ret
    exact ⟨rfl, HX.out⟩
def impl_avoiding.f (k : Nat) (a0 : Int) (l1 : List (List Int)) : Option (List (List Int)) := (impl_allOrders.f k a0).bind fun rows => if 0 < rows.length ∧ rows.length ≤ 4611686018427387904 then keepM (fun c => impl_avoids.f c l1) rows else none
theorem impl_avoiding.mono : ∀ a0 a1 k, LeO (impl_avoiding.f k a0 a1) (impl_avoiding.f (k + 1) a0 a1) := by
  intro a0 a1 k
  unfold impl_avoiding.f
  exact LeO.bind (impl_allOrders.mono _ _) (fun _ => LeO.refl _)
set_option maxHeartbeats 8000000 in
set_option maxRecDepth 100000 in
theorem impl_avoiding.calls (k : Nat) (a0 : Int) (A1 : Option Addr) (c1 : Nat) (l1 : List (List Int)) (r : List (List Int)) (w : World) (hr1 : Kd.C (Kd.slice 3 (Kd.int .i64)) w A1 l1.length l1) (hc1 : l1.length ≤ c1) (h : impl_avoiding.f k a0 l1 = some r) :
    Calls Try.prog 85 #[.int .i64 a0, .slice A1 l1.length c1] w fun e w' => ∃ v0_ : Value, e = .returned (v0_) ∧ Kd.S (Kd.slice 3 (Kd.int .i64)) 22 w' w.heap.size (fun _ => True) v0_ r ∧ Below w.heap.size w w' := by
  unfold impl_avoiding.f at h
  have h2 := Option.bind_eq_some_iff.1 h
  clear h
  obtain ⟨rows, ho, h⟩ := h2
  by_cases hq : 0 < rows.length ∧ rows.length ≤ 4611686018427387904
  · rw [if_pos hq] at h
    obtain ⟨hall, rfl⟩ := keepM_some h
    have hmf : ∀ (fn : Fn) (first cap : Array Value) (w : World), (Instr.makeFunc fn first cap).run Try.prog w = .ok (.func fn first cap) w := fun _ _ _ _ => rfl
    have HO := Aside0.mk ho
    have HALL := Aside0.mk hall
    have HQ := Aside0.mk hq
    have HR1 := Aside0.mk hr1
    have HBX := Aside0.mk (blk_new w (Obj.cells #[Value.slice A1 l1.length c1] 40))
    have HBW := Aside0.mk (below_alloc (Below.refl w.heap.size w) (Obj.cells #[Value.slice A1 l1.length c1] 40))
    obtain ⟨R, hR⟩ : ∃ R, rows.filter (fun x => impl_avoids.f x l1 == some true) = R := ⟨_, rfl⟩
    rw [hR]
    have HRR := Aside0.mk hR
    clear h ho hall hq hr1 hR
    go_enter Try.func85, Try.ntmps85
    go_wp2_with (first | (go_at_call 76; refine (impl_allOrders.calls k a0 rows _ HO.out).mono ?_; rintro e_ w2 ⟨v2, rfl, hs2, hb2⟩; obtain ⟨g, cap, eg, gb, gl, _⟩ := Kd.S_form hs2 HQ.out.1; subst eg; have HS2 := Aside0.mk hs2; have HB2 := Aside0.mk (below_step HBW.out hb2); have HBK := Aside0.mk (blk_below HBX.out hb2); have HG := Aside0.mk (show w.heap.size + 1 ≤ g by simpa using gb); clear hs2 hb2 gb gl) | (go_at_call 75; refine (deleteFunc_av2 (.pointer (some ⟨w.heap.size, 0, none⟩)) (fun x => !(impl_avoids.f x l1 == some true)) rows w2 _ g cap _ HS2.out HQ.out.2 (fun W A c x hF hx hC hc => ?cb)).mono ?_; (case cb => obtain ⟨b, hb⟩ := HALL.out x hx; have hh := avoiding_cb l1 A1 c1 w.heap.size w W (HB2.out.trans (hF.below HB2.out.size (fun k_ hk => by have := HG.out; omega))) (blk_fr HBK.out hF (fun hk => by have := HG.out; omega)) HR1.out hc1 A c x b hb hC hc; rw [hb]; cases b <;> exact hh); rintro e_ w3 ⟨rfl, hs3, hf3⟩; have HS3 := Aside0.mk hs3; have HF3 := Aside0.mk hf3; clear hs3 hf3))
    go_ret
    have hS := HS3.out
    simp only [Bool.not_not] at hS
    rw [HRR.out] at hS
    have hg := HG.out
    refine ⟨_, by simp only [Bool.not_not, HRR.out]; rfl, Kd.S_lower hS (by simp), HB2.out.trans (HF3.out.below HB2.out.size (fun k_ hk => by omega))⟩
  · rw [if_neg hq] at h; cases h
end

/-! ### impl_FirstAvoiding: function 41 -/
def impl_FirstAvoiding.j0 : Nat → Int → List (List Int) → Bool → Option (List Int × Bool)
  | 0, _, _, _ => none
  | k + 1, x0, x1, x14 => if x14 = true then (some (([] : List Int), false)) else ((impl_avoiding.f k x0 x1).bind fun t291 => (if (t291.length : Int) = 0 then (some (([] : List Int), false)) else (if 0 < (t291.length : Int) then (some (rd_L1 t291 0, true)) else (none))))
def impl_FirstAvoiding.f (k : Nat) (a0 : Int) (l1 : List (List Int)) : Option (List Int × Bool) := (impl_isSize.f a0).bind fun t289 => (if t289 = true then ((impl_arePatterns.f l1).bind fun t290 => (impl_FirstAvoiding.j0 k a0 l1 (!t290))) else (impl_FirstAvoiding.j0 k a0 l1 true))
theorem impl_FirstAvoiding.mono_l : ∀ k, (∀ y0 y1 y2, LeO (impl_FirstAvoiding.j0 k y0 y1 y2) (impl_FirstAvoiding.j0 (k + 1) y0 y1 y2))
  | 0 => fun _ _ _ r h => by simp [impl_FirstAvoiding.j0] at h
  | k + 1 => by
    have ih0 := impl_FirstAvoiding.mono_l k
    · intro y0 y1 y2
      unfold impl_FirstAvoiding.j0
      repeat' first
      | (with_reducible exact ih0 _ _ _)
      | (with_reducible exact impl_avoiding.mono _ _ _)
      | (with_reducible exact LeO.refl _)
      | (with_reducible exact LeO.none _)
      | (with_reducible refine LeO.ite ?_ ?_)
      | (with_reducible refine LeO.bind ?_ (fun _ => ?_))
      | exact ih0 _ _ _
      | exact impl_avoiding.mono _ _ _
      | exact LeO.none _
      | refine LeO.ite ?_ ?_
      | refine LeO.bind ?_ (fun _ => ?_)
theorem impl_FirstAvoiding.mono : ∀ a0 a1 k, LeO (impl_FirstAvoiding.f k a0 a1) (impl_FirstAvoiding.f (k + 1) a0 a1) := by
  intro a0 a1 k
  have ih0 := impl_FirstAvoiding.mono_l k
  unfold impl_FirstAvoiding.f
  repeat' first
      | (with_reducible exact ih0 _ _ _)
      | (with_reducible exact impl_avoiding.mono _ _ _)
      | (with_reducible exact LeO.refl _)
      | (with_reducible exact LeO.none _)
      | (with_reducible refine LeO.ite ?_ ?_)
      | (with_reducible refine LeO.bind ?_ (fun _ => ?_))
      | exact ih0 _ _ _
      | exact impl_avoiding.mono _ _ _
      | exact LeO.none _
      | refine LeO.ite ?_ ?_
      | refine LeO.bind ?_ (fun _ => ?_)
set_option maxHeartbeats 8000000 in
set_option maxRecDepth 100000 in
theorem impl_FirstAvoiding.calls (k : Nat) (a0 : Int) (A1 : Option Addr) (c1 : Nat) (l1 : List (List Int)) (r1 : List Int) (r2 : Bool) (w : World) (hr1 : Kd.C (Kd.slice 3 (Kd.int .i64)) w A1 l1.length l1) (hc1 : l1.length ≤ c1) (h : impl_FirstAvoiding.f k a0 l1 = some (r1, r2)) :
    Calls Try.prog 41 #[.int .i64 a0, .slice A1 l1.length c1] w fun e w' => ∃ v0_ : Value, e = .returned (.tuple #[v0_, .bool r2]) ∧ Kd.R (Kd.int .i64) 3 w' w.heap.size (fun _ => True) v0_ r1 ∧ Below w.heap.size w w' := by
  have HR1 := Aside0.mk hr1
  have HC1 := Aside0.mk hc1
  clear hr1 hc1
  have HB := Aside0.mk (Below.refl w.heap.size w)
  have H : ((impl_isSize.f a0).bind fun t289 => (if t289 = true then ((impl_arePatterns.f l1).bind fun t290 => (impl_FirstAvoiding.j0 k a0 l1 (!t290))) else (impl_FirstAvoiding.j0 k a0 l1 true))) = some (r1, r2) := h
  clear h
  have HC3 := Aside0.mk H
  clear H
  go_enter Try.func41, Try.ntmps41
  go_upto_region 1 with (fail)
  go_cut [14] (fun v14 wc => ∃ (kq : Nat) (x14_2 : Bool), v14 = .bool x14_2 ∧ Aside0 (impl_FirstAvoiding.j0 kq a0 l1 x14_2 = some (r1, r2)) ∧ Aside0 (kq ≤ k) ∧ Aside0 (Below w.heap.size w wc))
  case first =>
    have H := HC3.out
    clear HC3
    replace H := Option.bind_eq_some_iff.mp H
    obtain ⟨t289, A40, H⟩ := H
    replace H : (if t289 = true then ((impl_arePatterns.f l1).bind fun t290 => (impl_FirstAvoiding.j0 k a0 l1 (!t290))) else (impl_FirstAvoiding.j0 k a0 l1 true)) = some (r1, r2) := H
    have A4 := Aside0.mk A40
    clear A40
    by_cases c5 : t289 = true
    · subst c5
      have H1 : ((impl_arePatterns.f l1).bind fun t290 => (impl_FirstAvoiding.j0 k a0 l1 (!t290))) = some (r1, r2) := by rw [if_pos rfl] at H; exact H
      clear H
      have H := H1
      clear H1
      replace H := Option.bind_eq_some_iff.mp H
      obtain ⟨t290, A60, H⟩ := H
      replace H : (impl_FirstAvoiding.j0 k a0 l1 (!t290)) = some (r1, r2) := H
      have A6 := Aside0.mk A60
      clear A60
      have H' := Aside0.mk H
      clear H
      go_wp2_with (first | ((with_reducible refine gate_callee (f := 82) rfl ?_); refine goesL_ (some 8) rfl rfl Try.func82 (by kernel_rfl) rfl #[.int .i64 a0] rfl (by (try simp only [List.map_toArray, List.map_cons, List.map_nil]); first | done | rfl | (simp only [List.length_drop, List.length_take]; rfl)) ?_; (with_reducible refine (impl_isSize.calls a0 true _ A4.out).mono ?_); rintro e w' ⟨rfl, ⟨nd, rfl⟩⟩; refine ⟨_, rfl, ?_⟩) | (go_at_call 69; (with_reducible refine (impl_arePatterns.calls _ _ l1 t290 _ ?side1 ?side2 A6.out).mono ?_); (case side1 => repeat (first | exact (Kd.C_below HR1.out (by repeat (first | (with_reducible first | exact HB.out | apply below_alloc | apply pw_below_drewN | apply below_drew1) | exact HB.out))) | (with_reducible refine Kd.C_alloc ?_ _) | (with_reducible refine Kd.C_drewN ?_ _) | (with_reducible refine Kd.C_drew ?_))); (case side2 => exact HC1.out); rintro e w7 ⟨rfl, hb⟩; have n0_ := Aside0.mk (below_step (by repeat (first | (with_reducible first | exact HB.out | apply below_alloc | apply pw_below_drewN | apply below_drew1) | exact HB.out)) hb); clear HB; have HB := n0_; clear n0_; (try clear hb); (try clear hb2); (try clear hk); (try clear hi)))
      go_meet
      case rel => exact ⟨_, (!t290), (by first | rfl | (simp; done) | (simp [*]; done)), H', ⟨by first | omega | exact Nat.le_refl _⟩, ⟨by repeat (first | (with_reducible first | exact HB.out | apply below_alloc | apply pw_below_drewN | apply below_drew1) | exact HB.out)⟩⟩
    · replace c5 := Bool.eq_false_iff.mpr c5
      subst c5
      have H1 : (impl_FirstAvoiding.j0 k a0 l1 true) = some (r1, r2) := by rw [if_neg (show ¬ (false = true) by decide)] at H; exact H
      clear H
      have H := H1
      clear H1
      have H' := Aside0.mk H
      clear H
      go_wp2_with (first | ((with_reducible refine gate_callee (f := 82) rfl ?_); refine goesL_ (some 8) rfl rfl Try.func82 (by kernel_rfl) rfl #[.int .i64 a0] rfl (by (try simp only [List.map_toArray, List.map_cons, List.map_nil]); first | done | rfl | (simp only [List.length_drop, List.length_take]; rfl)) ?_; (with_reducible refine (impl_isSize.calls a0 false _ A4.out).mono ?_); rintro e w' ⟨rfl, ⟨nd, rfl⟩⟩; refine ⟨_, rfl, ?_⟩))
      go_meet
      case rel => exact ⟨_, (true), (by first | rfl | (simp; done) | (simp [*]; done)), H', ⟨by first | omega | exact Nat.le_refl _⟩, ⟨by repeat (first | (with_reducible first | exact HB.out | apply below_alloc | apply pw_below_drewN | apply below_drew1) | exact HB.out)⟩⟩
  case rest =>
    clear HC3
    try clear c1
    try clear p2
    try clear c4
    try clear c5
    obtain ⟨kq, x14_2, rfl, HA, HJ2, HB⟩ := hcut
    cases kq with
    | zero => exact absurd HA.out (by simp [impl_FirstAvoiding.j0])
    | succ kj2 =>
      have H := HA.out
      clear HA
      simp only [impl_FirstAvoiding.j0] at H
      by_cases c8 : x14_2 = true
      · subst c8
        have H1 : (some (([] : List Int), false)) = some (r1, r2) := by rw [if_pos rfl] at H; exact H
        clear H
        have H := H1
        clear H1
        simp only [Option.some.injEq, Prod.mk.injEq] at H
        obtain ⟨rfl, rfl⟩ := H
        go_wp2
        go_ret2
        exact ⟨_, by first | rfl | (simp [errW_none, errW_some] <;> rfl) | (simp [*, errW_none, errW_some] <;> rfl), by first | exact Kd.R_nil _ _ _ _ _ | exact Kd.N_nil _ _ _ _ _ | exact Kd.V_nil _ _ _ _ _ | exact Kd.Q_nil _ _ _ _ _ | exact Kd.S_nil _ _ _ _ _, by repeat (first | (with_reducible first | exact HB.out | apply below_alloc | apply pw_below_drewN | apply below_drew1) | exact HB.out)⟩
      · replace c8 := Bool.eq_false_iff.mpr c8
        subst c8
        have H1 : ((impl_avoiding.f kj2 a0 l1).bind fun t291 => (if (t291.length : Int) = 0 then (some (([] : List Int), false)) else (if 0 < (t291.length : Int) then (some (rd_L1 t291 0, true)) else (none)))) = some (r1, r2) := by rw [if_neg (show ¬ (false = true) by decide)] at H; exact H
        clear H
        have H := H1
        clear H1
        replace H := Option.bind_eq_some_iff.mp H
        obtain ⟨t291, A90, H⟩ := H
        replace H : (if (t291.length : Int) = 0 then (some (([] : List Int), false)) else (if 0 < (t291.length : Int) then (some (rd_L1 t291 0, true)) else (none))) = some (r1, r2) := H
        have A9 := Aside0.mk A90
        clear A90
        by_cases c10 : (t291.length : Int) = 0
        · rw [if_pos c10] at H
          have c10b0 : ((t291.length : Int) == 0) = true := beq_iff_eq.mpr c10
          have c10b1 : ((t291.length : Int) != 0) = false := bne_eq_false_iff_eq.mpr c10
          clear c10
          simp only [Option.some.injEq, Prod.mk.injEq] at H
          obtain ⟨rfl, rfl⟩ := H
          go_wp2_with (first | ((with_reducible refine gate_callee (f := 85) rfl ?_); refine goesL_ (some 17) rfl rfl Try.func85 (by kernel_rfl) rfl #[.int .i64 a0, .slice A1 l1.length c1] rfl (by (try simp only [List.map_toArray, List.map_cons, List.map_nil]); first | done | rfl | (simp only [List.length_drop, List.length_take]; rfl)) ?_; (with_reducible refine (impl_avoiding.calls kj2 a0 _ _ l1 t291 _ ?side1 ?side2 A9.out).mono ?_); (case side1 => repeat (first | exact (Kd.C_below HR1.out HB.out) | (with_reducible refine Kd.C_alloc ?_ _) | (with_reducible refine Kd.C_drewN ?_ _) | (with_reducible refine Kd.C_drew ?_))); (case side2 => exact HC1.out); rintro e w11 ⟨v292, rfl, ho0, hb⟩; refine ⟨_, rfl, ?_⟩; have n0_ := Aside0.mk (Kd.S_lower ho0 (below_size (by repeat (first | (with_reducible first | exact HB.out | apply below_alloc | apply pw_below_drewN | apply below_drew1) | exact HB.out)))); have n1_ := Aside0.mk (below_step (by repeat (first | (with_reducible first | exact HB.out | apply below_alloc | apply pw_below_drewN | apply below_drew1) | exact HB.out)) hb); clear HB; have HO293 := n0_; have HB := n1_; clear n0_ n1_; (try clear hb); (try clear hb2); (try clear hk); (try clear hi); (try clear ho0); obtain ⟨Ao12, co12, eo12⟩ := Kd.S_slice HO293.out; subst eo12))
          go_ret2
          exact ⟨_, by first | rfl | (simp [errW_none, errW_some] <;> rfl) | (simp [*, errW_none, errW_some] <;> rfl), by first | exact Kd.R_nil _ _ _ _ _ | exact Kd.N_nil _ _ _ _ _ | exact Kd.V_nil _ _ _ _ _ | exact Kd.Q_nil _ _ _ _ _ | exact Kd.S_nil _ _ _ _ _, by repeat (first | (with_reducible first | exact HB.out | apply below_alloc | apply pw_below_drewN | apply below_drew1) | exact HB.out)⟩
        · rw [if_neg c10] at H
          have c10b0 : ((t291.length : Int) == 0) = false := beq_eq_false_iff_ne.mpr c10
          have c10b1 : ((t291.length : Int) != 0) = true := bne_iff_ne.mpr c10
          have c10b2 : ¬ (t291 = []) := fun h_ => c10 (by rw [h_]; rfl)
          by_cases c13 : 0 < (t291.length : Int)
          · rw [if_pos c13] at H
            have c13b0 : decide (0 < (t291.length : Int)) = true := decide_eq_true c13
            have c13b1 : decide (0 < t291.length) = true := decide_eq_true (by omega)
            have c13b9 : (0 < t291.length) := by omega
            clear c13
            simp only [Option.some.injEq, Prod.mk.injEq] at H
            obtain ⟨rfl, rfl⟩ := H
            go_wp2_with (first | ((with_reducible refine gate_callee (f := 85) rfl ?_); refine goesL_ (some 17) rfl rfl Try.func85 (by kernel_rfl) rfl #[.int .i64 a0, .slice A1 l1.length c1] rfl (by (try simp only [List.map_toArray, List.map_cons, List.map_nil]); first | done | rfl | (simp only [List.length_drop, List.length_take]; rfl)) ?_; (with_reducible refine (impl_avoiding.calls kj2 a0 _ _ l1 t291 _ ?side1 ?side2 A9.out).mono ?_); (case side1 => repeat (first | exact (Kd.C_below HR1.out HB.out) | (with_reducible refine Kd.C_alloc ?_ _) | (with_reducible refine Kd.C_drewN ?_ _) | (with_reducible refine Kd.C_drew ?_))); (case side2 => exact HC1.out); rintro e w14 ⟨v292, rfl, ho0, hb⟩; refine ⟨_, rfl, ?_⟩; have n0_ := Aside0.mk (Kd.S_lower ho0 (below_size (by repeat (first | (with_reducible first | exact HB.out | apply below_alloc | apply pw_below_drewN | apply below_drew1) | exact HB.out)))); have n1_ := Aside0.mk (below_step (by repeat (first | (with_reducible first | exact HB.out | apply below_alloc | apply pw_below_drewN | apply below_drew1) | exact HB.out)) hb); clear HB; have HO293 := n0_; have HB := n1_; clear n0_ n1_; (try clear hb); (try clear hb2); (try clear hk); (try clear hi); (try clear ho0); obtain ⟨Ao15, co15, eo15⟩ := Kd.S_slice HO293.out; subst eo15; have p294 : 0 ≤ (0 : Int) := (by omega); have q294 : 0 < (t291.length : Int) := of_decide_eq_true (by first | (with_reducible assumption) | assumption); obtain ⟨ad294, A294_0, c294_0, e294, hx294_0, hl294_0, hi294_0⟩ := at_L1 (Kd.S_reads' HO293.out).2.2 0 p294 q294; cases e294; obtain ⟨ce294, hce294, hMe294, hcc294⟩ := Kd.S_get HO293.out [] 0 p294 (by first | exact q294 | exact of_decide_eq_true (by first | (with_reducible assumption) | assumption) | (have e_ := (Kd.S_reads' HO293.out).1; omega)); obtain ⟨ve294_0, rfl, ge294_0⟩ := hMe294; have hv294_0 := hcc294 0 _ rfl; rw [Nat.add_zero, show ((Kd.slice 3 (Kd.int .i64))).sz = 1 from rfl, Nat.mul_one] at hv294_0; replace hv294_0 := Option.some.inj (hv294_0.symm.trans hx294_0); rw [hv294_0] at ge294_0; have HL294_0 := Aside0.mk (show Kd.R (Kd.int .i64) 3 _ _ _ _ (rd_L1 t291 0) from ge294_0); clear hv294_0 ge294_0; clear hcc294 hce294; have qi294 : (0 < t291.length) = True := eq_true (by omega); (try rw [show ((0 : Int)).toNat = 0 from rfl] at hx294_0); (try rw [Addr.add_zero'] at hx294_0); have HR294_0 := Aside0.mk hi294_0; have HC294_0 := Aside0.mk hl294_0; clear hi294_0 hl294_0; replace p294 := eq_true p294; replace q294 := eq_true q294))
            go_ret2
            exact ⟨_, by first | rfl | (simp [errW_none, errW_some] <;> rfl) | (simp [*, errW_none, errW_some] <;> rfl), by (with_reducible repeat (first | apply Kd.R_alloc | apply Kd.R_drewN | apply Kd.R_drew)); exact Kd.R_mono HL294_0.out (fun _ hk => trivial), by repeat (first | (with_reducible first | exact HB.out | apply below_alloc | apply pw_below_drewN | apply below_drew1) | exact HB.out)⟩
          · rw [if_neg c13] at H
            exact absurd H (by simp)

end Go.Proofs.Ytjaplmgbhmgpiaa.MFnExactFirstAvoiding
