/- The functions that FnExactPatternsIn comes to, with a walk for each. Made by this session's own program (wip/tools/mk.py), in the form of the kit's print; walks named in NOTES.md were written by hand. -/
import Derived.Test.YtlkddcabjcejdaaMFnExactPatternsInx0
import Derived.Test.YtlkddcabjcejdaaMFnExactPatternsInx1
import Derived.Test.YtlkddcabjcejdaaMFnExactPatternsInx5
import Derived.Test.YtlkddcabjcejdaaMFnExactPatternsInx6
import Derived.Test.YtlkddcabjcejdaaMFnExactPatternsInx7
namespace Go.Proofs.Ytlkddcabjcejdaa.MFnExactPatternsIn
open Go.RowKit Go.Proofs.YtlkddcabjcejdaaW.PrintWords Go.Proofs.YtlkddcabjcejdaaW.PrintLast Go.Proofs.YtlkddcabjcejdaaW.PrintMore
attribute [local go_sem] max2_int min2_int max_two min_two max_three min_three max_four min_four   -- for this text's walks alone
set_option linter.unusedVariables false
set_option linter.unusedSimpArgs false

/-! ### impl_PatternsIn: function 30 -/
section
open Go.Proofs.Ytlkddcabjcejdaa.Base
set_option maxHeartbeats 8000000 in
set_option maxRecDepth 100000 in
theorem choose2_add_pi {σ : Type} (f : σ → List Int → σ × Bool) (I : Nat → σ → World → Prop) (gs : Nat) (c1_ c2_ : Value) (n many bS gm gw gn ga : Nat)
    (hI : ∀ b s W W', I b s W → Below W.heap.size W W' → I b s W') (hIm : ∀ b b' s W, I b s W → b' ≤ b → I b' s W)
    (hcb : ∀ b s W A c xs, I (b + 1) s W → bS ≤ W.heap.size → Kd.R (Kd.int .i64) 3 W bS (fun k => k ≠ gs) (.slice A xs.length c) xs → xs.length = many → (∀ x ∈ xs, 0 ≤ x ∧ x < (n : Int)) → Calls Try.prog 160 #[.slice A xs.length c, c1_, c2_] W fun e w' => e = .returned (.bool (f s xs).2) ∧ I b (f s xs).1 w' ∧ FrT 22 gs W w')
    (hSlt : gs < bS) (hs1 : gm ≠ gs) (hs2 : gw ≠ gs) (hs3 : gn ≠ gs) (hs4 : ga ≠ gs) (hn : n < 1073741824) :
    ∀ (r : Nat) (A : Option Addr) (c : Nat) (xs : List Int) (s : σ) (W : World) (bg : Nat), xs.length + r ≤ n → (∀ x ∈ xs, 0 ≤ x ∧ x < (n : Int)) → I (bg + 2 ^ r) s W → bS ≤ W.heap.size →
      Ch 3 27 39 W gm gw gn ga (.int .i64 (many : Int)) (.func (.func 160) #[] #[c1_, c2_]) (.int .i64 (n : Int)) (.func (.func 247) #[] #[.pointer (some ⟨gm, 0, none⟩), .pointer (some ⟨gw, 0, none⟩), .pointer (some ⟨gn, 0, none⟩), .pointer (some ⟨ga, 0, none⟩)]) →
      Kd.R (Kd.int .i64) 3 W bS (fun k => k ≠ gs) (.slice A xs.length c) xs →
      Calls Try.prog 247 #[.slice A xs.length c, .int .i64 ((n - r : Nat) : Int), .pointer (some ⟨gm, 0, none⟩), .pointer (some ⟨gw, 0, none⟩), .pointer (some ⟨gn, 0, none⟩), .pointer (some ⟨ga, 0, none⟩)] W fun e w' => e = .returned (.bool (addG f n many r xs s).2) ∧ I bg (addG f n many r xs s).1 w' ∧ FrT 22 gs W w' := by
  have HII := Aside0.mk hI
  have HIM := Aside0.mk hIm
  have HCB := Aside0.mk hcb
  clear hI hIm hcb
  intro r
  induction r using Nat.strongRecOn with
  | ind r IH =>
    have HIH := Aside0.mk IH
    clear IH
    intro A c xs s W bg hxr hxq hIs hbs hch hr
    have HCh0 := Aside0.mk hch
    have HR0 := Aside0.mk hr
    have HXQ := Aside0.mk hxq
    clear hxq
    have HI0 := Aside0.mk hIs
    clear hch hr hIs
    have cM := cell_of_one HCh0.out.hm
    have cW := cell_of_one HCh0.out.hw
    by_cases hm : xs.length = many
    · have hmb : ((xs.length : Int) == (many : Int)) = true := by simp [hm]
      have ea : addG f n many r xs s = f s xs := by unfold addG; rw [if_pos hm]
      rw [ea]
      have HM := Aside0.mk hm
      clear hm ea
      go_enter Try.func247, Try.ntmps247
      go_wp2_with (go_at_call 160; refine (HCB.out bg s W A c xs (HIM.out _ _ _ _ HI0.out (by have := Nat.one_le_two_pow (n := r); omega)) hbs HR0.out HM.out HXQ.out).mono ?_; rintro e_ w2 ⟨rfl, h1, h2⟩; have HX := Aside0.mk (And.intro h1 h2); clear h1 h2)
      go_ret
      exact ⟨rfl, HX.out⟩
    · have hmb : ((xs.length : Int) == (many : Int)) = false := by simp; omega
      have ea : addG f n many r xs s = loopG f n many r xs s := by unfold addG; rw [if_neg hm]
      rw [ea]
      clear cW
      obtain ⟨R, hR⟩ : ∃ R, loopG f n many r xs s = R := ⟨_, rfl⟩
      rw [hR]
      have HP := Aside0.mk hR
      clear hR ea
      go_enter Try.func247, Try.ntmps247
      go_wp2
      go_loopg [9] r (fun kq v9 wr => ∃ (r1 : Nat) (s1 : σ), v9 = .int .i64 ((n - r1 : Nat) : Int) ∧ kq = r1 ∧ r1 ≤ r ∧ Aside0 (loopG f n many r1 xs s1 = R) ∧ Aside0 (I (bg + 2 ^ r1) s1 wr) ∧ Aside0 (FrT 22 gs W wr))
      case atStart => exact ⟨r, s, rfl, rfl, Nat.le_refl _, HP, HI0, ⟨FrT.refl _⟩⟩
      case round =>
        clear HP HI0 cM
        obtain ⟨r1, s1, rfl, hkq, hrr, HP, HI, HF⟩ := hrel
        obtain rfl : r1 = gk := hkq.symm
        have HCh := Aside0.mk (Ch.frT (t := 22) (gs := gs) HCh0.out HF.out (by decide) (by decide) (by decide) hs1 hs2 hs3 hs4)
        have HR := Aside0.mk (R_frT (by decide) HR0.out HF.out)
        have cN := cell_of_one HCh.out.hn
        cases r1 with
        | zero =>
          have e := HP.out
          simp only [loopG] at e
          subst e
          go_wp2
          go_ret
          exact ⟨rfl, HIM.out _ _ _ _ HI.out (Nat.le_add_right _ _), HF.out⟩
        | succ r1 =>
          have hlt : ((n - (r1 + 1) : Nat) : Int) < (n : Int) := by omega
          have hltb : decide (((n - (r1 + 1) : Nat) : Int) < (n : Int)) = true := decide_eq_true hlt
          have hw64 : wrap64 (((n - (r1 + 1) : Nat) : Int) + 1) = ((n - r1 : Nat) : Int) := by unfold wrap64; omega
          have HW64 := Aside0.mk hw64
          clear hw64
          go_upto_region 6 with (fail)
          have hw64 := HW64.out
          refine start_ (n := 9) (S := fun w' => w'.cell? ⟨ga, 0, none⟩ = some (Value.func (Fn.func 247) #[] #[.pointer (some ⟨gm, 0, none⟩), .pointer (some ⟨gw, 0, none⟩), .pointer (some ⟨gn, 0, none⟩), .pointer (some ⟨ga, 0, none⟩)])) (ds := []) #[false, false, false, false, false, false, false, false, false] (by kernel_rfl) rfl rfl (cell_of_one HCh.out.ha) (fun hHeld => ?_)
          have HR := Aside0.mk (Kd.R_drew HR.out)
          have HCh := Aside0.mk (Ch.frT (t := 22) (gs := gs) HCh.out (FrT.of_below (below_drew (Below.refl _ _))) (by decide) (by decide) (by decide) hs1 hs2 hs3 hs4)
          replace HF := Aside0.mk (HF.out.trans (FrT.of_below (below_drew (Below.refl _ _))))
          replace HI := Aside0.mk (HII.out _ _ _ _ HI.out (below_drew (Below.refl _ _)))
          generalize World.drew _ = w1 at HF HI HR HCh hHeld ⊢
          have HB := Aside0.mk (Below.refl w1.heap.size w1)
          refine pure_ (i := 1) (N := some 24) (v := ?_) (a' := ?_) #[false, true, false, false, false, false, false, false, false] rfl rfl (by kernel_rfl) (fun _ _ _ h => h) (Or.inl ⟨by rfl, ?_⟩) ?_ ?_
          rotate_left
          · intro w'
            go_simp
            with_reducible rfl
          rotate_left
          · simp only [Act.put, List.setIfInBounds_toArray, List.set_cons_zero, List.set_cons_succ, i64_w, i32_w]
            rfl
          refine pure_ (i := 3) (N := some 26) (v := ?_) (a' := ?_) #[false, true, false, true, false, false, false, false, false] rfl rfl (by kernel_rfl) (fun _ _ _ h => h) (Or.inl ⟨by rfl, ?_⟩) ?_ ?_
          rotate_left
          · intro w'
            go_simp
            with_reducible rfl
          rotate_left
          · simp only [Act.put, List.setIfInBounds_toArray, List.set_cons_zero, List.set_cons_succ, i64_w, i32_w]
            rfl
          refine pure_ (i := 6) (N := some 29) (v := ?_) (a' := ?_) #[false, true, false, true, false, false, true, false, false] rfl rfl (by kernel_rfl) (fun _ _ _ h => h) (Or.inl ⟨by rfl, ?_⟩) ?_ ?_
          rotate_left
          · intro w'
            go_simp
            with_reducible rfl
          rotate_left
          · simp only [Act.put, List.setIfInBounds_toArray, List.set_cons_zero, List.set_cons_succ, i64_w, i32_w]
            rfl
          refine pure_ (i := 7) (N := some 30) (v := ?_) (a' := ?_) #[false, true, false, true, false, false, true, true, false] rfl rfl (by kernel_rfl) (fun _ _ _ h => h) (Or.inl ⟨by rfl, ?_⟩) ?_ ?_
          rotate_left
          · intro w'
            go_simp
            with_reducible rfl
          rotate_left
          · simp only [Act.put, List.setIfInBounds_toArray, List.set_cons_zero, List.set_cons_succ, i64_w, i32_w]
            rfl
          refine take_ (i := 0) (N := some 23) (v := ?_) (a' := ?_) #[true, true, false, true, false, false, true, true, false] rfl rfl (by kernel_rfl) (fun _ _ _ h => h) (Or.inl ⟨by rfl, ?_⟩) hHeld ?_ ?_
          rotate_left
          · intro w' s0
            go_simp
            with_reducible rfl
          rotate_left
          · simp only [Act.put, List.setIfInBounds_toArray, List.set_cons_zero, List.set_cons_succ, i64_w, i32_w]
            rfl
          refine join_ (σ := Value × Value) 2 #[true, true, true, true, true, false, true, true, false] (fun s_ => [(25, s_.1), (27, s_.2)]) (fun s_ w' => (w'.cell? ⟨ga, 0, none⟩ = some (Value.func (Fn.func 247) #[] #[.pointer (some ⟨gm, 0, none⟩), .pointer (some ⟨gw, 0, none⟩), .pointer (some ⟨gn, 0, none⟩), .pointer (some ⟨ga, 0, none⟩)])) ∧ Aside0 (Below w1.heap.size w1 w') ∧ Aside0 (Kd.R (Kd.int .i64) 3 w' w1.heap.size (fun _ => True) s_.1 xs) ∧ Aside0 (Kd.R (Kd.int .i64) 3 w' w1.heap.size (fun _ => True) s_.2 [((n - (r1 + 1) : Nat) : Int)])) ?_ ?_
          rotate_left
          · intro hCont
            refine two_ (i := 2) (j := 4) (Ni := some 25) (Nj := some 27) #[true, true, true, true, false, false, true, true, false] #[true, true, false, true, true, false, true, true, false] rfl rfl rfl rfl (by kernel_rfl) (by decide) (by decide) (fun K hK => ?_) (fun K hK => ?_)
            · skip
              refine goes_ Try.func248 (by kernel_rfl) rfl #[.slice A xs.length c] (by rfl) rfl rfl (by simp only [List.map_toArray, List.map_cons, List.map_nil]; rfl) ?_
              with_reducible refine (slices_Clone_int_int.calls A c xs xs _ (Kd.R_reads' (Kd.R_below HR.out HB.out)).2.2 (Kd.R_reads' HR.out).2.1 (by unfold slices_Clone_int_int.f; rw [if_pos (by omega)])).mono ?_
              rintro e_ w3 ⟨v25, rfl, hR25, hb3⟩
              have hz2 := HB.out.size
              have HR25 := Aside0.mk (Kd.R_lower hR25 hz2)
              replace HB := Aside0.mk (below_step HB.out hb3)
              clear hz2 hR25 hb3
              refine ⟨_, rfl, ?_⟩
              refine hK.out _ _ (cell_of_one (Ch.frT (t := 22) (gs := gs) HCh.out (FrT.of_below (t := 22) (gs := gs) HB.out) (by decide) (by decide) (by decide) hs1 hs2 hs3 hs4).ha) (fun hHeld => ?_)
              clear hK K
              refine norm_ (a' := ?_) ?_ ?_
              rotate_left
              · show Act.put _ (some 25) _ = _
                simp only [Act.put, List.setIfInBounds_toArray, List.set_cons_zero, List.set_cons_succ, i64_w, i32_w]
                rfl
              refine one_ (i := 4) (N := some 27) #[true, true, true, true, true, false, true, true, false] rfl rfl (by kernel_rfl) (by decide) (fun K hK => ?_)
              have hz4 := HB.out.size
              refine Kd.R_lit_step (Kd.int .i64) _ 3 ?hg (N := 27) ?hd (xs := ([((n - (r1 + 1) : Nat) : Int)] : List Int)) (inner := [.int .i64 ((n - (r1 + 1) : Nat) : Int)]) (ok := fun _ => True) (okp := fun _ => True) ?hr ?hp (fun _ hk => hk) trivial (Below.refl _ _) (Nat.le_refl _) (by simp) ?_; (case hd => rfl); (case hg => rfl); (case hr => first | (go_simp; done) | (go_simp; rfl)); (case hp => exact (Reps.one (show Kd.M (Kd.int .i64) _ _ _ _ [.int .i64 _] from rfl) (Reps.none _ _)))
              intro v27 w4 hL4 hb4 hg4 hn4
              have HL27 := Aside0.mk (Kd.R_lower hL4 hz4)
              replace HR25 := Aside0.mk (Kd.R_below HR25.out hb4)
              replace HB := Aside0.mk (below_step HB.out hb4)
              clear hz4 hL4 hb4 hg4 hn4
              refine hK.out _ _ (cell_of_one (Ch.frT (t := 22) (gs := gs) HCh.out (FrT.of_below (t := 22) (gs := gs) HB.out) (by decide) (by decide) (by decide) hs1 hs2 hs3 hs4).ha) (fun hHeld => ?_)
              clear hK K
              refine norm_ (a' := ?_) ?_ ?_
              rotate_left
              · show Act.put _ (some 27) _ = _
                simp only [Act.put, List.setIfInBounds_toArray, List.set_cons_zero, List.set_cons_succ, i64_w, i32_w]
                rfl
              exact norm_ (by simp only [putAll, Act.put, List.setIfInBounds_toArray, List.set_cons_zero, List.set_cons_succ]) (hCont (v25, v27) _ ⟨hHeld, HB, HR25, HL27⟩)
            · skip
              have hz4 := HB.out.size
              refine Kd.R_lit_step (Kd.int .i64) _ 3 ?hg (N := 27) ?hd (xs := ([((n - (r1 + 1) : Nat) : Int)] : List Int)) (inner := [.int .i64 ((n - (r1 + 1) : Nat) : Int)]) (ok := fun _ => True) (okp := fun _ => True) ?hr ?hp (fun _ hk => hk) trivial (Below.refl _ _) (Nat.le_refl _) (by simp) ?_; (case hd => rfl); (case hg => rfl); (case hr => first | (go_simp; done) | (go_simp; rfl)); (case hp => exact (Reps.one (show Kd.M (Kd.int .i64) _ _ _ _ [.int .i64 _] from rfl) (Reps.none _ _)))
              intro v27 w4 hL4 hb4 hg4 hn4
              have HL27 := Aside0.mk (Kd.R_lower hL4 hz4)
              replace HB := Aside0.mk (below_step HB.out hb4)
              clear hz4 hL4 hb4 hg4 hn4
              refine hK.out _ _ (cell_of_one (Ch.frT (t := 22) (gs := gs) HCh.out (FrT.of_below (t := 22) (gs := gs) HB.out) (by decide) (by decide) (by decide) hs1 hs2 hs3 hs4).ha) (fun hHeld => ?_)
              clear hK K
              refine norm_ (a' := ?_) ?_ ?_
              rotate_left
              · show Act.put _ (some 27) _ = _
                simp only [Act.put, List.setIfInBounds_toArray, List.set_cons_zero, List.set_cons_succ, i64_w, i32_w]
                rfl
              refine one_ (i := 2) (N := some 25) #[true, true, true, true, true, false, true, true, false] rfl rfl (by kernel_rfl) (by decide) (fun K hK => ?_)
              refine goes_ Try.func248 (by kernel_rfl) rfl #[.slice A xs.length c] (by rfl) rfl rfl (by simp only [List.map_toArray, List.map_cons, List.map_nil]; rfl) ?_
              with_reducible refine (slices_Clone_int_int.calls A c xs xs _ (Kd.R_reads' (Kd.R_below HR.out HB.out)).2.2 (Kd.R_reads' HR.out).2.1 (by unfold slices_Clone_int_int.f; rw [if_pos (by omega)])).mono ?_
              rintro e_ w3 ⟨v25, rfl, hR25, hb3⟩
              have hz2 := HB.out.size
              have HR25 := Aside0.mk (Kd.R_lower hR25 hz2)
              replace HL27 := Aside0.mk (Kd.R_below HL27.out hb3)
              replace HB := Aside0.mk (below_step HB.out hb3)
              clear hz2 hR25 hb3
              refine ⟨_, rfl, ?_⟩
              refine hK.out _ _ (cell_of_one (Ch.frT (t := 22) (gs := gs) HCh.out (FrT.of_below (t := 22) (gs := gs) HB.out) (by decide) (by decide) (by decide) hs1 hs2 hs3 hs4).ha) (fun hHeld => ?_)
              clear hK K
              refine norm_ (a' := ?_) ?_ ?_
              rotate_left
              · show Act.put _ (some 25) _ = _
                simp only [Act.put, List.setIfInBounds_toArray, List.set_cons_zero, List.set_cons_succ, i64_w, i32_w]
                rfl
              exact norm_ (by simp only [putAll, Act.put, List.setIfInBounds_toArray, List.set_cons_zero, List.set_cons_succ]) (hCont (v25, v27) _ ⟨hHeld, HB, HR25, HL27⟩)
          clear HB hHeld
          rintro ⟨v25, v27⟩ w6 ⟨hHeld, HB, HR25, HL27⟩
          obtain ⟨A25, c25, e25⟩ := Kd.R_slice HR25.out
          obtain ⟨A27, c27, e27⟩ := Kd.R_slice HL27.out
          simp only at e25 e27
          subst e25
          subst e27
          refine norm_ (a' := ?_) ?_ ?_
          rotate_left
          · simp only [putAll, Act.put, List.setIfInBounds_toArray, List.set_cons_zero, List.set_cons_succ]
            rfl
          refine one_ (i := 5) (N := some 28) #[true, true, true, true, true, true, true, true, false] rfl rfl (by kernel_rfl) (by decide) (fun K hK => ?_)
          refine Kd.R_append_rows_step (Kd.int .i64) (w0 := w1) w1.heap.size (by rfl) (.tmp 25) (.tmp 27) 22 3 (.int .i64 0) 8 rfl Try.underlying22 info3 rfl (by decide) (by omega) (.slice A25 xs.length c25) xs [((n - (r1 + 1) : Nat) : Int)] _ _ _ (fun _ => True) (fun _ => False) rfl rfl HR25.out (Kd.R_reads' HL27.out).2.2 (fun _ _ h => h) (fun _ h => h.elim) (fun _ _ => trivial) HB.out HB.out.size (by simp only [List.length_cons, List.length_nil]; omega) ?_
          intro v28 w7 ho7 hb7 hg7 hat7
          obtain ⟨A28, c28, e28⟩ := Kd.R_slice ho7
          subst e28
          replace HB := Aside0.mk hb7
          have HR28 := Aside0.mk ho7
          clear hat7 hg7 hb7 ho7 HL27 HR25
          refine hK.out _ _ (cell_of_one (Ch.frT (t := 22) (gs := gs) HCh.out (FrT.of_below (t := 22) (gs := gs) HB.out) (by decide) (by decide) (by decide) hs1 hs2 hs3 hs4).ha) (fun hHeld => ?_)
          clear hK K
          refine norm_ (a' := ?_) ?_ ?_
          rotate_left
          · show Act.put _ (some 28) _ = _
            simp only [Act.put, List.setIfInBounds_toArray, List.set_cons_zero, List.set_cons_succ, i64_w, i32_w]
            rfl
          refine one_ (i := 8) (N := some 31) #[true, true, true, true, true, true, true, true, true] rfl rfl (by kernel_rfl) (by decide) (fun K hK => ?_)
          obtain ⟨P8, hP8⟩ : ∃ p, addG f n many r1 (xs ++ [((n - (r1 + 1) : Nat) : Int)]) s1 = p := ⟨_, rfl⟩
          have hbw : bS ≤ w1.heap.size := Nat.le_trans hbs HF.out.size
          have HC7 := Aside0.mk (Ch.frT (t := 22) (gs := gs) HCh.out (FrT.of_below HB.out) (by decide) (by decide) (by decide) hs1 hs2 hs3 hs4)
          have HR7 := Aside0.mk (show Kd.R (Kd.int .i64) 3 w7 bS (fun k => k ≠ gs) (.slice A28 (xs ++ [((n - (r1 + 1) : Nat) : Int)]).length c28) (xs ++ [((n - (r1 + 1) : Nat) : Int)]) from Kd.R_of_own (Kd.own_of_R (Kd.R_lower HR28.out hbw)) (fun k hk hs => by have := Kd.R_base HR28.out k hk; have := hSlt; omega))
          have H8 := HIH.out r1 (by omega) A28 c28 (xs ++ [((n - (r1 + 1) : Nat) : Int)]) s1 w7 (bg + 2 ^ r1) (by simp; omega) (fun x hx => by rcases List.mem_append.1 hx with hx | hx; exact HXQ.out x hx; (have hx := List.mem_singleton.1 hx; omega)) (HII.out _ _ _ _ (HIM.out _ _ _ _ HI.out (by rw [Nat.pow_succ]; omega)) HB.out) (Nat.le_trans hbw HB.out.size) HC7.out HR7.out
          rw [← hw64] at H8
          refine call_ 247 #[.slice A28 (xs ++ [((n - (r1 + 1) : Nat) : Int)]).length c28, .int .i64 (wrap64 (((n - (r1 + 1) : Nat) : Int) + 1)), .pointer (some ⟨gm, 0, none⟩), .pointer (some ⟨gw, 0, none⟩), .pointer (some ⟨gn, 0, none⟩), .pointer (some ⟨ga, 0, none⟩)] (by rfl) rfl ?hrun8 ?_; (case hrun8 => clear H8; go_simp; (try rfl); trace_state)
          with_reducible refine H8.mono ?_
          rintro e8 w8 ⟨he8, hI8, hF8⟩
          rw [hP8] at he8 hI8
          subst he8
          obtain ⟨s8, b8⟩ := P8
          simp only at hI8
          have HX := Aside0.mk (And.intro hI8 hF8)
          have HC8 := Aside0.mk (Ch.frT (t := 22) (gs := gs) HC7.out hF8 (by decide) (by decide) (by decide) hs1 hs2 hs3 hs4)
          have HP8 := Aside0.mk hP8
          clear hI8 hF8 H8 hP8
          refine ⟨_, rfl, ?_⟩
          refine hK.out _ _ (cell_of_one HC8.out.ha) (fun hHeld => ?_)
          clear hK K
          refine norm_ (a' := ?_) ?_ ?_
          rotate_left
          · show Act.put _ (some 31) _ = _
            simp only [Act.put, List.setIfInBounds_toArray, List.set_cons_zero, List.set_cons_succ, i64_w, i32_w]
            rfl
          refine done_ (by kernel_rfl) ?_
          have e := HP.out
          rw [loopG_succ, HP8.out] at e
          have HFF := Aside0.mk (HF.out.trans ((FrT.of_below HB.out).trans HX.out.2))
          have HI8 := Aside0.mk HX.out.1
          cases b8 with
          | true =>
            simp only [if_true] at e
            subst e
            try go_wp2
            go_ret
            exact ⟨rfl, HIM.out _ _ _ _ HI8.out (Nat.le_add_right _ _), HFF.out⟩
          | false =>
            simp only [Bool.false_eq_true, if_false] at e
            have HE := Aside0.mk e
            clear e
            try go_wp2
            go_roundg r1
            case measure => omega
            case rel => exact ⟨r1, s8, by simp [hw64]; omega, rfl, by omega, HE, HI8, HFF⟩
set_option maxHeartbeats 8000000 in
set_option maxRecDepth 100000 in
theorem choose2_calls_pi {σ : Type} (f : σ → List Int → σ × Bool) (I : Nat → σ → World → Prop) (gs : Nat) (c1_ c2_ : Value) (n many : Nat) (s : σ) (w : World) (bg : Nat)
    (hI : ∀ b s W W', I b s W → Below W.heap.size W W' → I b s W') (hIm : ∀ b b' s W, I b s W → b' ≤ b → I b' s W)
    (hcb : ∀ b s W A c xs, I (b + 1) s W → w.heap.size ≤ W.heap.size → Kd.R (Kd.int .i64) 3 W w.heap.size (fun k => k ≠ gs) (.slice A xs.length c) xs → xs.length = many → (∀ x ∈ xs, 0 ≤ x ∧ x < (n : Int)) → Calls Try.prog 160 #[.slice A xs.length c, c1_, c2_] W fun e w' => e = .returned (.bool (f s xs).2) ∧ I b (f s xs).1 w' ∧ FrT 22 gs W w')
    (hSlt : gs < w.heap.size) (hn : n < 1073741824) (hs : I (bg + 2 ^ n) s w) :
    Calls Try.prog 159 #[.int .i64 (n : Int), .int .i64 (many : Int), .func (.func 160) #[] #[c1_, c2_]] w fun e w' => e = .returned (.tuple #[]) ∧ I bg (addG f n many n [] s).1 w' ∧ FrT 22 gs w w' := by
  have hmf : ∀ (fn : Fn) (first cap : Array Value) (w : World), (Instr.makeFunc fn first cap).run Try.prog w = .ok (.func fn first cap) w := fun _ _ _ _ => rfl
  have HII := Aside0.mk hI
  have HIM := Aside0.mk hIm
  have HCB := Aside0.mk hcb
  have HS := Aside0.mk hSlt
  have HI := Aside0.mk hs
  clear hI hIm hcb hSlt hs
  have z1 : ∀ (W : World) (o : Obj), (W.alloc o).heap.size = W.heap.size + 1 := fun W o => by simp
  have hga : ((((w.alloc (Obj.cells #[Value.int IntKind.i64 ↑n]  3)).alloc (Obj.cells #[Value.int IntKind.i64 ↑many]  3)).alloc (Obj.cells #[Value.func (Fn.func 160) #[] #[c1_, c2_]] 27)).alloc (Obj.cells #[Value.nilFunc] 39)).heap[w.heap.size + 1 + 1 + 1]? = some (.cells #[Value.nilFunc] 39 (0, 0)) := by
    have := blk_new (((w.alloc (Obj.cells #[Value.int IntKind.i64 ↑n]  3)).alloc (Obj.cells #[Value.int IntKind.i64 ↑many]  3)).alloc (Obj.cells #[Value.func (Fn.func 160) #[] #[c1_, c2_]] 27)) (Obj.cells #[Value.nilFunc] 39)
    rwa [z1, z1, z1] at this
  have zc := cell_of_one hga
  have zf := free_of_one hga
  clear hga
  have hst : ∀ (fn : Fn) (x y : Array Value) (a : Addr) (W : World), (store a (.func fn x y)).run Try.prog W = stored Try.prog W a (.func fn x y) .plain := fun fn x y a W => run_store Try.prog W a _ .plain rfl
  have hbel : Below w.heap.size w (((((w.alloc (Obj.cells #[Value.int IntKind.i64 ↑n]  3)).alloc (Obj.cells #[Value.int IntKind.i64 ↑many]  3)).alloc (Obj.cells #[Value.func (Fn.func 160) #[] #[c1_, c2_]] 27)).alloc (Obj.cells #[(Value.func (Fn.func 247) #[] #[Value.pointer (some { block := w.heap.size + 1, off := 0 }), Value.pointer (some { block := w.heap.size + 1 + 1, off := 0 }), Value.pointer (some { block := w.heap.size, off := 0 }), Value.pointer (some { block := w.heap.size + 1 + 1 + 1, off := 0 })])] 39)).alloc (Obj.cells #[]  3)) := below_alloc (below_alloc (below_alloc (below_alloc (below_alloc (Below.refl _ _) _) _) _) _) _
  have hch : Ch 3 27 39 (((((w.alloc (Obj.cells #[Value.int IntKind.i64 ↑n]  3)).alloc (Obj.cells #[Value.int IntKind.i64 ↑many]  3)).alloc (Obj.cells #[Value.func (Fn.func 160) #[] #[c1_, c2_]] 27)).alloc (Obj.cells #[(Value.func (Fn.func 247) #[] #[Value.pointer (some { block := w.heap.size + 1, off := 0 }), Value.pointer (some { block := w.heap.size + 1 + 1, off := 0 }), Value.pointer (some { block := w.heap.size, off := 0 }), Value.pointer (some { block := w.heap.size + 1 + 1 + 1, off := 0 })])] 39)).alloc (Obj.cells #[]  3)) (w.heap.size + 1) (w.heap.size + 1 + 1) w.heap.size (w.heap.size + 1 + 1 + 1) (.int .i64 (many : Int)) (.func (.func 160) #[] #[c1_, c2_]) (.int .i64 (n : Int)) (Value.func (Fn.func 247) #[] #[Value.pointer (some { block := w.heap.size + 1, off := 0 }), Value.pointer (some { block := w.heap.size + 1 + 1, off := 0 }), Value.pointer (some { block := w.heap.size, off := 0 }), Value.pointer (some { block := w.heap.size + 1 + 1 + 1, off := 0 })]) := by
    refine ⟨?_, ?_, ?_, ?_⟩
    · exact blk_alloc (blk_alloc (blk_alloc (by have := blk_new (w.alloc (Obj.cells #[Value.int IntKind.i64 ↑n]  3)) (Obj.cells #[Value.int IntKind.i64 ↑many]  3); rwa [z1] at this) _) _) _
    · exact blk_alloc (blk_alloc (by have := blk_new ((w.alloc (Obj.cells #[Value.int IntKind.i64 ↑n]  3)).alloc (Obj.cells #[Value.int IntKind.i64 ↑many]  3)) (Obj.cells #[Value.func (Fn.func 160) #[] #[c1_, c2_]] 27); rwa [z1, z1] at this) _) _
    · exact blk_alloc (blk_alloc (blk_alloc (blk_alloc (blk_new w (Obj.cells #[Value.int IntKind.i64 ↑n]  3)) _) _) _) _
    · exact blk_alloc (by have := blk_new (((w.alloc (Obj.cells #[Value.int IntKind.i64 ↑n]  3)).alloc (Obj.cells #[Value.int IntKind.i64 ↑many]  3)).alloc (Obj.cells #[Value.func (Fn.func 160) #[] #[c1_, c2_]] 27)) (Obj.cells #[(Value.func (Fn.func 247) #[] #[Value.pointer (some { block := w.heap.size + 1, off := 0 }), Value.pointer (some { block := w.heap.size + 1 + 1, off := 0 }), Value.pointer (some { block := w.heap.size, off := 0 }), Value.pointer (some { block := w.heap.size + 1 + 1 + 1, off := 0 })])] 39); rwa [z1, z1, z1] at this) _
  have hrow : Kd.R (Kd.int .i64) 3 (((((w.alloc (Obj.cells #[Value.int IntKind.i64 ↑n]  3)).alloc (Obj.cells #[Value.int IntKind.i64 ↑many]  3)).alloc (Obj.cells #[Value.func (Fn.func 160) #[] #[c1_, c2_]] 27)).alloc (Obj.cells #[(Value.func (Fn.func 247) #[] #[Value.pointer (some { block := w.heap.size + 1, off := 0 }), Value.pointer (some { block := w.heap.size + 1 + 1, off := 0 }), Value.pointer (some { block := w.heap.size, off := 0 }), Value.pointer (some { block := w.heap.size + 1 + 1 + 1, off := 0 })])] 39)).alloc (Obj.cells #[]  3)) w.heap.size (fun k => k ≠ gs) (.slice (some { block := w.heap.size + 1 + 1 + 1 + 1, off := 0 }) ([] : List Int).length 0) [] :=
    Kd.R_of_own ⟨rfl, Or.inr ⟨w.heap.size + 1 + 1 + 1 + 1, 0, #[], rfl, by omega, by have := blk_new ((((w.alloc (Obj.cells #[Value.int IntKind.i64 ↑n]  3)).alloc (Obj.cells #[Value.int IntKind.i64 ↑many]  3)).alloc (Obj.cells #[Value.func (Fn.func 160) #[] #[c1_, c2_]] 27)).alloc (Obj.cells #[(Value.func (Fn.func 247) #[] #[Value.pointer (some { block := w.heap.size + 1, off := 0 }), Value.pointer (some { block := w.heap.size + 1 + 1, off := 0 }), Value.pointer (some { block := w.heap.size, off := 0 }), Value.pointer (some { block := w.heap.size + 1 + 1 + 1, off := 0 })])] 39)) (Obj.cells #[]  3); rwa [z1, z1, z1, z1] at this, Nat.le_refl _, Nat.zero_le _, rfl, rfl⟩⟩ (fun k hk hs => by
      have h1 := HS.out
      have h2 : w.heap.size + 1 + 1 + 1 + 1 = k := by simpa [Value.ownBlock] using hk
      omega)
  have H := choose2_add_pi f I gs c1_ c2_ n many w.heap.size (w.heap.size + 1) (w.heap.size + 1 + 1) w.heap.size (w.heap.size + 1 + 1 + 1) HII.out HIM.out HCB.out HS.out (by have := HS.out; omega) (by have := HS.out; omega) (by have := HS.out; omega) (by have := HS.out; omega) hn n (some { block := w.heap.size + 1 + 1 + 1 + 1, off := 0 }) 0 [] s (((((w.alloc (Obj.cells #[Value.int IntKind.i64 ↑n]  3)).alloc (Obj.cells #[Value.int IntKind.i64 ↑many]  3)).alloc (Obj.cells #[Value.func (Fn.func 160) #[] #[c1_, c2_]] 27)).alloc (Obj.cells #[(Value.func (Fn.func 247) #[] #[Value.pointer (some { block := w.heap.size + 1, off := 0 }), Value.pointer (some { block := w.heap.size + 1 + 1, off := 0 }), Value.pointer (some { block := w.heap.size, off := 0 }), Value.pointer (some { block := w.heap.size + 1 + 1 + 1, off := 0 })])] 39)).alloc (Obj.cells #[]  3)) bg (by simp) (by simp) (HII.out _ _ _ _ HI.out hbel) hbel.size hch hrow
  rw [show ((n - n : Nat) : Int) = 0 by simp] at H
  have HH := Aside0.mk H
  have HBel := Aside0.mk hbel
  clear H hrow hch hbel z1
  go_enter Try.func159, Try.ntmps159
  go_wp2_with (go_at_call 247; refine HH.out.mono ?_; rintro e_ w2 ⟨rfl, h1, h2⟩; have HX := Aside0.mk (And.intro h1 h2); clear h1 h2)
  go_end0
  exact ⟨rfl, HX.out.1, (FrT.of_below HBel.out).trans HX.out.2⟩
theorem S_okOf {α : Type} {d : Kd α} {e : Nat} {w : World} {base : Nat} {ok : Nat → Prop} {v : Value} {xs : List α} (h : Kd.S d e w base ok v xs) : ∀ k, v.ownBlock = some k → ok k := (Kd.S_R h).1
/-- PatternsIn's captured variables: the order, and the rows so far. -/
structure Pt (tL tR tI : TypeId) (w0 W : World) (gl go : Nat) (v0 : Value) (s : List (List Int)) : Prop where
  hl : W.heap[gl]? = some (.cells #[v0] tL (0, 0))
  ho : ∃ v, W.heap[go]? = some (.cells #[v] tR (0, 0)) ∧ Kd.S (Kd.slice tI (Kd.int .i64)) tL W w0.heap.size (fun k => k ≠ gl ∧ k ≠ go) v s
  hb : Below w0.heap.size w0 W
  go_ : w0.heap.size ≤ go
  ne : gl ≠ go
theorem Pt.below {tL tR tI : TypeId} {w0 W W' : World} {gl go : Nat} {v0 : Value} {s : List (List Int)} (h : Pt tL tR tI w0 W gl go v0 s) (hb : Below W.heap.size W W') : Pt tL tR tI w0 W' gl go v0 s := by
  obtain ⟨v, h1, h2⟩ := h.ho
  exact ⟨blk_below h.hl hb, ⟨v, blk_below h1 hb, Kd.S_below h2 hb⟩, below_then h.hb h.hb.size hb, h.go_, h.ne⟩
set_option maxHeartbeats 8000000 in
set_option maxRecDepth 100000 in
theorem patterns_cb (l : List Int) (A0 : Option Addr) (c0 : Nat) (w0 : World) (gl go : Nat) (many : Nat)
    (hl0 : Kd.C (Kd.int .i64) w0 A0 l.length l) (hc0 : l.length ≤ c0)
    (hres : ∀ xs : List Int, xs.length = many → (∀ x ∈ xs, 0 ≤ x ∧ x < (l.length : Int)) → ∃ k1 k2, impl_at.f k1 l xs = some (atG l xs) ∧ impl_shape.f k2 (atG l xs) = some (shapeL (atG l xs)))
    (s : List (List Int)) (W : World) (bS : Nat) (A : Option Addr) (c : Nat) (xs : List Int) (hC : Pt 22 28 3 w0 W gl go (.slice A0 l.length c0) s) (hs1 : s.length ≤ 1000000) (hR : Kd.R (Kd.int .i64) 3 W bS (fun k => k ≠ go) (.slice A xs.length c) xs) (hx : xs.length = many) (hq : ∀ x ∈ xs, 0 ≤ x ∧ x < (l.length : Int)) :
      Calls Try.prog 160 #[.slice A xs.length c, .pointer (some ⟨go, 0, none⟩), .pointer (some ⟨gl, 0, none⟩)] W fun e w' => e = .returned (.bool false) ∧ Pt 22 28 3 w0 w' gl go (.slice A0 l.length c0) (s ++ [shapeL (atG l xs)]) ∧ FrT 22 go W w' := by
  obtain ⟨k1, k2, h1, h2⟩ := hres xs hx hq
  replace h1 := Aside0.mk h1
  replace h2 := Aside0.mk h2
  obtain ⟨vO, hgo, hS⟩ := hC.ho
  obtain ⟨Ao, co, eo⟩ := Kd.S_slice hS
  subst eo
  have HGO := Aside0.mk hgo
  have HGL := Aside0.mk hC.hl
  have HS := Aside0.mk hS
  have HB0 := Aside0.mk hC.hb
  have HGE := Aside0.mk (And.intro hC.go_ hC.ne)
  have HR := Aside0.mk hR
  have HL0 := Aside0.mk hl0
  clear hR hx hq hres hl0 hC hgo hS
  go_enter Try.func160, Try.ntmps160
  go_wp2_with (fail)
  refine start_ (n := 8) (S := fun w' => w'.cell? ⟨go, 0, none⟩ = some (.slice Ao s.length co) ∧ w'.cell? ⟨gl, 0, none⟩ = some (.slice A0 l.length c0)) (ds := [7]) #[false, false, false, false, false, false, false, false] (by kernel_rfl) rfl rfl ⟨cell_of_one HGO.out, cell_of_one HGL.out⟩ (fun hHeld => ?_)
  replace HB0 := Aside0.mk (below_drew HB0.out)
  have HBW := Aside0.mk (below_drew (Below.refl W.heap.size W))
  replace HS := Aside0.mk (Kd.S_below HS.out HBW.out)
  generalize W.drew = w1 at HB0 HBW HS hHeld ⊢
  refine pure_ (i := 2) (N := some 7) (v := ?_) (a' := ?_) #[false, false, true, false, false, false, false, false] rfl rfl (by kernel_rfl) (fun _ _ _ h => h) (Or.inl ⟨by rfl, ?_⟩) ?_ ?_
  rotate_left
  · intro w'
    go_simp
    with_reducible rfl
  rotate_left
  · simp only [Act.put, List.setIfInBounds_toArray, List.set_cons_zero, List.set_cons_succ, i64_w, i32_w]
    rfl
  refine take_ (i := 0) (N := some 5) (v := ?_) (a' := ?_) #[true, false, true, false, false, false, false, false] rfl rfl (by kernel_rfl) (fun _ _ _ h => h) (Or.inl ⟨by rfl, ?_⟩) hHeld ?_ ?_
  rotate_left
  · rintro w' ⟨s0, s1⟩
    go_simp
    with_reducible rfl
  rotate_left
  · simp only [Act.put, List.setIfInBounds_toArray, List.set_cons_zero, List.set_cons_succ, i64_w, i32_w]
    rfl
  refine take_ (i := 1) (N := some 6) (v := ?_) (a' := ?_) #[true, true, true, false, false, false, false, false] rfl rfl (by kernel_rfl) (fun _ _ _ h => h) (Or.inl ⟨by rfl, ?_⟩) hHeld ?_ ?_
  rotate_left
  · rintro w' ⟨s0, s1⟩
    go_simp
    with_reducible rfl
  rotate_left
  · simp only [Act.put, List.setIfInBounds_toArray, List.set_cons_zero, List.set_cons_succ, i64_w, i32_w]
    rfl
  refine one_ (i := 3) (N := some 8) #[true, true, true, true, false, false, false, false] rfl rfl (by kernel_rfl) (by decide) (fun K hK => ?_)
  refine goes_ Try.func162 (by kernel_rfl) rfl #[.slice A0 l.length c0, .slice A xs.length c] (by rfl) rfl rfl (by simp only [List.map_toArray, List.map_cons, List.map_nil]; rfl) ?_
  with_reducible refine (impl_at.calls k1 A0 c0 l A c xs _ _ (Kd.C_below HL0.out HB0.out) hc0 (Kd.R_reads' (Kd.R_below HR.out HBW.out)).2.2 (Kd.R_reads' HR.out).2.1 h1.out).mono ?_
  rintro e_ w2 ⟨v8, rfl, hR8, hb2⟩
  replace HB0 := Aside0.mk (below_then HB0.out HB0.out.size hb2)
  replace HBW := Aside0.mk (below_step HBW.out hb2)
  replace HS := Aside0.mk (Kd.S_below HS.out hb2)
  obtain ⟨A8, c8, e8⟩ := Kd.R_slice hR8
  subst e8
  have HR8 := Aside0.mk hR8
  clear hR8 hb2
  refine ⟨_, rfl, ?_⟩
  refine hK.out _ _ ⟨cell_of_one (blk_below HGO.out HBW.out), cell_of_one (blk_below HGL.out HBW.out)⟩ (fun hHeld => ?_)
  clear hK K
  refine norm_ (a' := ?_) ?_ ?_
  rotate_left
  · show Act.put _ (some 8) _ = _
    simp only [Act.put, List.setIfInBounds_toArray, List.set_cons_zero, List.set_cons_succ, i64_w, i32_w]
    rfl
  refine one_ (i := 4) (N := some 9) #[true, true, true, true, true, false, false, false] rfl rfl (by kernel_rfl) (by decide) (fun K hK => ?_)
  refine goes_ Try.func161 (by kernel_rfl) rfl #[.slice A8 (atG l xs).length c8] (by rfl) rfl rfl (by simp only [List.map_toArray, List.map_cons, List.map_nil]; rfl) ?_
  with_reducible refine (impl_shape.calls k2 A8 c8 (atG l xs) _ _ (Kd.R_reads' HR8.out).2.2 (Kd.R_reads' HR8.out).2.1 h2.out).mono ?_
  rintro e_ w3 ⟨v9, rfl, hR9, hb3⟩
  have HSA := Aside0.mk HS.out
  have HB2 := Aside0.mk HB0.out.size
  have HW3 := Aside0.mk hb3.size
  have HRN := Aside0.mk (fun k_ (hk_ : v9.ownBlock = some k_) => show w2.heap.size ≤ k_ from Kd.R_base hR9 k_ hk_)
  have HSZ := Aside0.mk (show gl < w2.heap.size ∧ go < w2.heap.size from ⟨blk_lt (blk_below HGL.out HBW.out), blk_lt (blk_below HGO.out HBW.out)⟩)
  replace HB0 := Aside0.mk (below_then HB0.out HB0.out.size hb3)
  replace HBW := Aside0.mk (below_step HBW.out hb3)
  replace HS := Aside0.mk (Kd.S_elder' HSA.out (Kd.R_base hR9) hb3)
  obtain ⟨A9, c9, e9⟩ := Kd.R_slice hR9
  subst e9
  have HR9 := Aside0.mk hR9
  clear hR9 hb3 HSA
  refine ⟨_, rfl, ?_⟩
  refine hK.out _ _ ⟨cell_of_one (blk_below HGO.out HBW.out), cell_of_one (blk_below HGL.out HBW.out)⟩ (fun hHeld => ?_)
  clear hK K
  refine norm_ (a' := ?_) ?_ ?_
  rotate_left
  · show Act.put _ (some 9) _ = _
    simp only [Act.put, List.setIfInBounds_toArray, List.set_cons_zero, List.set_cons_succ, i64_w, i32_w]
    rfl
  refine one_ (i := 5) (N := some 10) #[true, true, true, true, true, true, false, false] rfl rfl (by kernel_rfl) (by decide) (fun K hK => ?_)
  refine value_ (w1 := ?_) (v := ?_) (by rfl) rfl ?_ ?_
  rotate_left 2
  · go_simp
    constructor
    · rfl
    · rfl
  refine hK.out _ _ ⟨(World.cell?_alloc_lt _ _ _ (World.block_lt_of_cell? _ _ (hHeld.1))).trans (hHeld.1), (World.cell?_alloc_lt _ _ _ (World.block_lt_of_cell? _ _ (hHeld.2))).trans (hHeld.2)⟩ (fun hHeld => ?_)
  clear hK K
  refine norm_ (a' := ?_) ?_ ?_
  rotate_left
  · show Act.put _ (some 10) _ = _
    simp only [Act.put, List.setIfInBounds_toArray, List.set_cons_zero, List.set_cons_succ, i64_w, i32_w]
    rfl
  refine one_ (i := 6) (N := some 11) #[true, true, true, true, true, true, true, false] rfl rfl (by kernel_rfl) (by decide) (fun K hK => ?_)
  refine Kd.S_append_step (Kd.slice 3 (Kd.int .i64)) (w0 := w0) w0.heap.size (by rfl) (.tmp 5) (.tmp 10) 28 22 (.slice none 0 0) 24 rfl Try.underlying28 info22 rfl (by decide) (by omega) (.slice Ao s.length co) s (shapeL (atG l xs)) [.slice A9 (shapeL (atG l xs)).length c9] (fun k_ => k_ ≠ gl ∧ k_ ≠ go) (fun k_ => some k_ = (.slice A9 (shapeL (atG l xs)).length c9 : Value).ownBlock) rfl rfl ?aP ?aK ?aF ?aO ?aB ?aS ?aL ?_
  (case aP => exact Kd.M_row (Kd.R_mono (Kd.R_tight rfl (Kd.R_lower HR9.out HB2.out)) (fun _ h_ => h_)))
  (case aK => exact (fun k_ hk_ => ⟨by have h1_ := HRN.out k_ hk_.symm; have h2_ := HSZ.out; omega, fun e_ => ((Kd.R_apart' HR9.out (Kd.S_typed HS.out) (by decide)).1 k_ hk_.symm).2 e_⟩))
  (case aF => exact (fun k_ hk_ => by have h2_ := HSZ.out; have h3_ := HW3.out; omega))
  (case aO => exact (Kd.S_mono HS.out (fun k_ hk_ => ⟨hk_.1, fun e_ => hk_.2 e_⟩)))
  (case aB => exact HB0.out)
  (case aS => exact HB0.out.size)
  (case aL => have := hs1; omega)
  intro v11 w5 ho5 hb5 hg5 hat5
  have hgo5 := blk_grown (blk_below HGO.out HBW.out) hg5 (Kd.S_ne HS.out (blk_below HGO.out HBW.out) (by decide))
  have hgl5 := blk_grown (blk_below HGL.out HBW.out) hg5 (fun e_ => (S_okOf HS.out gl e_.symm).1.1 rfl)
  obtain ⟨A11, c11, e11⟩ := Kd.S_slice ho5
  subst e11
  have cf := cell_of_one hgo5
  have ff := free_of_one hgo5
  have HGO5 := Aside0.mk hgo5
  have HGL5 := Aside0.mk hgl5
  have HO5 := Aside0.mk ho5
  have HB5 := Aside0.mk hb5
  have HF5 := Aside0.mk ((FrT.of_below (t := 22) (gs := go) HBW.out).trans (FrT.of_grown (t := 22) (gs := go) hg5 (Kd.S_typed HS.out)))
  clear ho5 hb5 hg5 hat5 hgo5 hgl5
  refine hK.out _ _ ⟨cf, cell_of_one HGL5.out⟩ (fun hHeld => ?_)
  clear hK K
  refine norm_ (a' := ?_) ?_ ?_
  rotate_left
  · show Act.put _ (some 11) _ = _
    simp only [Act.put, List.setIfInBounds_toArray, List.set_cons_zero, List.set_cons_succ, i64_w, i32_w]
    rfl
  refine last_ (i := 7) (N := none) #[true, true, true, true, true, true, true, true] rfl rfl (by kernel_rfl) (by decide) (fun K hK => ?_)
  refine skip_ (w1 := ?_) (by rfl) rfl ?_ ?_
  rotate_left
  · go_simp
    rfl
  refine hK.out _ _ ?_
  clear hK K
  refine done_ (by kernel_rfl) ?_

  have hsl : (s ++ [shapeL (atG l xs)]).length = s.length + 1 := by simp
  go_wp2
  go_ret
  refine ⟨rfl, ⟨blk_far HGL5.out HGE.out.2 _, ⟨_, one_setCell HGO5.out, Kd.S_far ?_ (fun k_ hk_ => hk_.2) _⟩, below_set HB5.out HGE.out.1, HGE.out.1, HGE.out.2⟩, HF5.out.trans (FrT.set 0 _)⟩
  have := HO5.out
  rw [hsl] at this
  exact this
theorem S_empty {α : Type} (d : Kd α) (W : World) (base e : Nat) (ok : Nat → Prop) (hb : base ≤ W.heap.size) (hok : ok W.heap.size) : Kd.S d e (W.alloc (.cells #[] e)) base ok (.slice (some ⟨W.heap.size, 0, none⟩) ([] : List α).length 0) [] :=
  ⟨fun _ => 0, ⟨fun k hk => by
    have : W.heap.size = k := by simpa [Value.ownBlock] using hk
    subst this; exact hok, [], World.ownsRow_lit (base := base) (e := e) W #[] 0 hb (by decide) (by simp), Reps.none _ _⟩⟩
def pnF (l : List Int) (s : List (List Int)) (xs : List Int) : List (List Int) × Bool := (s ++ [shapeL (atG l xs)], false)
def pnG (l : List Int) (m : Nat) : List (List Int) := (addG (pnF l) l.length m l.length [] []).1
set_option maxHeartbeats 8000000 in
set_option maxRecDepth 100000 in
theorem patterns_calls (l : List Int) (A0 : Option Addr) (c0 : Nat) (w0 : World) (gl go : Nat) (many : Nat) (w : World)
    (hl0 : Kd.C (Kd.int .i64) w0 A0 l.length l) (hc0 : l.length ≤ c0) (hl7 : l.length ≤ 7) (hm7 : many ≤ 7)
    (hC : Pt 22 28 3 w0 w gl go (.slice A0 l.length c0) []) :
    Calls Try.prog 159 #[.int .i64 (l.length : Int), .int .i64 (many : Int), .func (.func 160) #[] #[.pointer (some ⟨go, 0, none⟩), .pointer (some ⟨gl, 0, none⟩)]] w fun e w' => e = .returned (.tuple #[]) ∧ Pt 22 28 3 w0 w' gl go (.slice A0 l.length c0) (pnG l many) ∧ (pnG l many).length ≤ 1000000 := by
  obtain ⟨v, hv, _⟩ := hC.ho
  have h2 : (2 : Nat) ^ l.length ≤ 2 ^ 7 := Nat.pow_le_pow_right (by omega) hl7
  refine (choose2_calls_pi (pnF l) (fun b s W => Pt 22 28 3 w0 W gl go (.slice A0 l.length c0) s ∧ s.length + b ≤ 1000000) go (.pointer (some ⟨go, 0, none⟩)) (.pointer (some ⟨gl, 0, none⟩)) l.length many [] w 0 (fun b s W W' h hb => ⟨h.1.below hb, h.2⟩) (fun b b' s W h hb => ⟨h.1, by have := h.2; omega⟩) ?_ (blk_lt hv) (by omega) ⟨hC, by simp; omega⟩).mono ?_
  · rintro b s W A c xs ⟨hC', hs⟩ hbs hR hx hq
    refine (patterns_cb l A0 c0 w0 gl go many hl0 hc0 (fun ys hy hyq => ?_) s W _ A c xs hC' (by omega) hR hx hq).mono ?_
    · obtain ⟨k1, h1⟩ := impl_at_ev l ys (by omega) hyq
      obtain ⟨k2, h2⟩ := impl_shape_ev (atG l ys) (by simp [atG]; omega)
      exact ⟨k1, k2, h1 k1 (Nat.le_refl _), h2 k2 (Nat.le_refl _)⟩
    · rintro e w' ⟨rfl, h1, h2⟩
      exact ⟨rfl, ⟨h1, by simp [pnF]; omega⟩, h2⟩
  · rintro e w' ⟨rfl, h1, _⟩
    exact ⟨rfl, h1.1, by have := h1.2; simp only [Nat.add_zero] at this; exact this⟩
def impl_PatternsIn.f (k : Nat) (l0 : List Int) (a1 : Int) : Option (List (List Int) × Bool) := if l0.length ≤ 140737488351232 then (if isOrd l0 = true ∧ 1 ≤ a1 ∧ a1 ≤ 7 then (impl_tidied.f (pnG l0 a1.toNat)).bind (fun t => some (t, true)) else some ([], false)) else none
set_option maxHeartbeats 8000000 in
set_option maxRecDepth 100000 in
theorem impl_PatternsIn.calls (k : Nat) (A0 : Option Addr) (c0 : Nat) (l0 : List Int) (a1 : Int) (r1 : List (List Int)) (r2 : Bool) (w : World) (hr0 : Kd.C (Kd.int .i64) w A0 l0.length l0) (hc0 : l0.length ≤ c0) (h : impl_PatternsIn.f k l0 a1 = some (r1, r2)) :
    Calls Try.prog 30 #[.slice A0 l0.length c0, .int .i64 a1] w fun e w' => ∃ v0_ : Value, e = .returned (.tuple #[v0_, .bool r2]) ∧ Kd.S (Kd.slice 3 (Kd.int .i64)) 22 w' w.heap.size (fun _ => True) v0_ r1 ∧ Below w.heap.size w w' := by
  unfold impl_PatternsIn.f at h
  by_cases hlen : l0.length ≤ 140737488351232
  · rw [if_pos hlen] at h
    have hmf : ∀ (fn : Fn) (first cap : Array Value) (w : World), (Instr.makeFunc fn first cap).run Try.prog w = .ok (.func fn first cap) w := fun _ _ _ _ => rfl
    obtain ⟨k0, hk0⟩ := impl_order_ev l0 hlen
    have K0 := Aside0.mk (hk0 k0 (Nat.le_refl _))
    have HR0 := Aside0.mk hr0
    have cg : (w.alloc (Obj.cells #[Value.slice A0 l0.length c0] 22)).cell? ⟨w.heap.size, 0, none⟩ = some (.slice A0 l0.length c0) := cell_of_one (blk_new w _)
    have hbl : (w.alloc (Obj.cells #[Value.slice A0 l0.length c0] 22)).heap[w.heap.size]? = some (.cells #[Value.slice A0 l0.length c0] 22 (0, 0)) := blk_new w _
    have HBL := Aside0.mk hbl
    clear hk0 hr0 hlen hbl
    cases h0 : isOrd l0 with
    | false =>
      rw [if_neg (by rw [h0]; simp)] at h
      obtain ⟨rfl, rfl⟩ := Prod.mk.inj (Option.some.inj h)
      rw [h0] at K0
      clear h h0
      go_enter Try.func30, Try.ntmps30
      go_wp2_with (go_at_call 146; refine (impl_isOrder.calls k0 A0 c0 l0 false _ (Kd.C_alloc HR0.out _) hc0 K0.out).mono ?_; rintro e_ w2 ⟨rfl, ⟨nd, rfl⟩⟩)
      go_ret2
      exact ⟨_, rfl, Kd.S_nil _ _ _ _ _, pw_below_drewN (below_alloc (Below.refl _ _) _) _⟩
    | true =>
      rw [h0] at K0
      by_cases h2 : 1 ≤ a1 ∧ a1 ≤ 7
      · rw [if_pos ⟨h0, h2.1, h2.2⟩] at h
        obtain ⟨t, ht, h⟩ := Option.bind_eq_some_iff.1 h
        obtain ⟨rfl, rfl⟩ := Prod.mk.inj (Option.some.inj h)
        obtain ⟨m, rfl⟩ : ∃ m : Nat, a1 = (m : Int) := ⟨a1.toNat, by omega⟩
        have K1 := Aside0.mk (show impl_isSize.f (m : Int) = some true by unfold impl_isSize.f; rw [if_pos (show (m : Int) ≥ 1 from h2.1), decide_eq_true h2.2])
        have hl7 := (ord_len h0).2
        have HT := Aside0.mk ht
        have HL := Aside0.mk (show l0.length ≤ 7 ∧ m ≤ 7 from ⟨hl7, by omega⟩)
        clear h ht h0 h2 hl7
        go_enter Try.func30, Try.ntmps30
        go_wp2_with (first | (go_at_call 146; (with_reducible refine (impl_isOrder.calls k0 A0 c0 l0 true _ (Kd.C_alloc HR0.out _) hc0 K0.out).mono ?_); rintro e_ w2 ⟨rfl, ⟨nd, rfl⟩⟩) | (go_at_call 158; (with_reducible refine (impl_isSize.calls (m : Int) true _ K1.out).mono ?_); rintro e_ w3 ⟨rfl, ⟨nd2, rfl⟩⟩))
        generalize hnn : nd + nd2 = nn
        refine (patterns_calls l0 A0 c0 w w.heap.size (w.heap.size + 1 + 1) m _ HR0.out hc0 HL.out.1 HL.out.2 ?hP).mono ?_
        case hP =>
          refine ⟨blk_alloc (blk_alloc (blk_drewN HBL.out _) _) _, ⟨_, by have := blk_new (((w.alloc (Obj.cells #[Value.slice A0 l0.length c0] 22)).drewN nn).alloc (Obj.cells #[] 22)) (Obj.cells #[Value.slice (some { block := w.heap.size + 1, off := 0 }) 0 0] 28); simpa using this, ?_⟩, below_alloc (below_alloc (pw_below_drewN (below_alloc (Below.refl _ _) _) _) _) _, by omega, by omega⟩
          refine Kd.S_alloc ?_ _
          have := S_empty (Kd.slice 3 (Kd.int .i64)) ((w.alloc (Obj.cells #[Value.slice A0 l0.length c0] 22)).drewN nn) w.heap.size 22 (fun k => k ≠ w.heap.size ∧ k ≠ w.heap.size + 1 + 1) (by simp) (by simp)
          simpa using this
        rintro e_ w4 ⟨rfl, hP, hle⟩
        obtain ⟨v, hv, hS⟩ := hP.ho
        obtain ⟨Av, cv, ev⟩ := Kd.S_slice hS
        subst ev
        have cv := cell_of_one hv
        have HS := Aside0.mk hS
        have HB := Aside0.mk hP.hb
        clear hP hv hS cg
        go_wp2_with (fail)
        refine (impl_tidied.own _ t w w4 Av _ _ HS.out HB.out HT.out).mono ?_
        rintro e_ w5 ⟨v5, rfl, h5, hb5⟩
        have H5 := Aside0.mk (And.intro h5 hb5)
        clear h5 hb5
        go_wp2_with (fail)
        go_ret2
        exact ⟨_, rfl, H5.out⟩
      · rw [if_neg (fun hh => h2 ⟨hh.2.1, hh.2.2⟩)] at h
        obtain ⟨rfl, rfl⟩ := Prod.mk.inj (Option.some.inj h)
        have K1 := Aside0.mk (show impl_isSize.f a1 = some false by
          unfold impl_isSize.f
          by_cases h3 : a1 ≥ 1
          · rw [if_pos h3, decide_eq_false (by omega)]
          · rw [if_neg h3])
        clear h h0 h2
        go_enter Try.func30, Try.ntmps30
        go_wp2_with (first | (go_at_call 146; (with_reducible refine (impl_isOrder.calls k0 A0 c0 l0 true _ (Kd.C_alloc HR0.out _) hc0 K0.out).mono ?_); rintro e_ w2 ⟨rfl, ⟨nd, rfl⟩⟩) | (go_at_call 158; (with_reducible refine (impl_isSize.calls a1 false _ K1.out).mono ?_); rintro e_ w3 ⟨rfl, ⟨nd2, rfl⟩⟩))
        go_ret2
        exact ⟨_, rfl, Kd.S_nil _ _ _ _ _, by repeat (first | exact Below.refl _ _ | apply pw_below_drewN | apply below_alloc)⟩
  · rw [if_neg hlen] at h; cases h
end

/-! ### shared: lawev -/
section
open Go.Proofs.Ytlkddcabjcejdaa.Base
/-! ### laws.toIntS, laws.eqIntS -/
theorem toInt_l (l : List Int) (hl : l.length * 8 ≤ 140737488351232) : ∀ (suf pre : List Int), l = pre ++ suf → Ev (fun k => laws_toIntS.l0 k l (pre ++ List.replicate suf.length 0) (pre.length : Int)) l := by
  intro suf
  induction suf with
  | nil =>
    intro pre e
    have h := len_end e
    refine ev_succ ?_
    simp only [laws_toIntS.l0.eq_2]
    refine ev_neg (by omega) ?_
    exact ev_now (by rw [e]; simp)
  | cons c suf ih =>
    intro pre e
    have h := len_mid e
    refine ev_succ ?_
    simp only [laws_toIntS.l0.eq_2, rd_mid' e]
    refine ev_pos (by omega) (ev_pos (by omega) (ev_pos (by simp; omega) ?_))
    rw [wrap_snoc (pre := pre) (c := c) (by omega)]
    have e2 : (pre ++ List.replicate (c :: suf).length 0).set ((pre.length : Int)).toNat c = (pre ++ [c]) ++ List.replicate suf.length 0 := by
      simp [List.replicate_succ]
    rw [e2]
    exact ih _ (snoc_mid e)
theorem toInt_ev (l : List Int) (hl : l.length * 8 ≤ 140737488351232) : Ev (fun k => laws_toIntS.f k l) l := by
  unfold laws_toIntS.f
  refine ev_pos (by omega) (ev_pos (by omega) ?_)
  have := toInt_l l hl l [] rfl
  simpa using this
theorem eqInt_l (a b : List Int) (hl : a.length * 8 ≤ 140737488351232) : ∀ (s t pre q : List Int), a = pre ++ s → b = q ++ t → pre.length = q.length → s.length = t.length → Ev (fun k => laws_eqIntS.l0 k a b (pre.length : Int)) (decide (s = t)) := by
  intro s
  induction s with
  | nil =>
    intro t pre q e e' h1 h2
    have h := len_end e
    obtain rfl : t = [] := by cases t with
      | nil => rfl
      | cons _ _ => simp at h2
    refine ev_succ ?_
    simp only [laws_eqIntS.l0.eq_2]
    refine ev_neg (by omega) ?_
    exact ev_now (by simp)
  | cons c s ih =>
    intro t pre q e e' h1 h2
    cases t with
    | nil => simp at h2
    | cons d t =>
    have h := len_mid e
    have h' := len_mid e'
    refine ev_succ ?_
    have r1 := rd_mid' e
    have r2 := rd_mid' e'
    rw [← h1] at r2
    simp only [laws_eqIntS.l0.eq_2, r1, r2]
    refine ev_pos (by omega) (ev_pos (by omega) (ev_pos (by omega) ?_))
    by_cases hc : c = d
    · refine ev_pos hc ?_
      rw [wrap_snoc (pre := pre) (c := c) (by omega)]
      refine ev_eq (ih t (pre ++ [c]) (q ++ [d]) (snoc_mid e) (snoc_mid e') (by simp [h1]) (by simpa using h2)) ?_
      simp [hc]
    · refine ev_neg hc (ev_now ?_)
      simp [hc]
theorem eqInt_ev (a b : List Int) (hl : a.length * 8 ≤ 140737488351232) : Ev (fun k => laws_eqIntS.f k a b) (decide (a = b)) := by
  unfold laws_eqIntS.f
  by_cases h : a.length = b.length
  · refine ev_pos (by omega) ?_
    exact eqInt_l a b hl a b [] [] rfl rfl rfl h
  · refine ev_neg (by omega) (ev_now ?_)
    symm
    exact decide_eq_false (fun e => h (by rw [e]))
/-! ### laws.markIntS, laws.heldIntS -/
theorem mark_l : ∀ (suf pre : List Int) (x : Int), 0 ≤ x → x + suf.length ≤ 4611686018427387904 → pre.length + suf.length ≤ 4611686018427387904 → Ev (fun k => laws_markIntS.l0 k (pre ++ suf) x (pre.length : Int)) (x + suf.length, pre ++ iota x suf.length) := by
  intro suf
  induction suf with
  | nil =>
    intro pre x h0 h1 h2
    refine ev_succ ?_
    simp only [laws_markIntS.l0.eq_2]
    refine ev_neg (by simp) ?_
    exact ev_now (by simp [iota])
  | cons c suf ih =>
    intro pre x h0 h1 h2
    simp only [List.length_cons] at h1 h2
    refine ev_succ ?_
    simp only [laws_markIntS.l0.eq_2]
    refine ev_pos (by simp; omega) (ev_pos (by omega) ?_)
    have e2 : (pre ++ c :: suf).set ((pre.length : Int)).toNat x = (pre ++ [x]) ++ suf := by simp
    rw [wrap_snoc (pre := pre) (c := x) (by omega), e2, wrap_of (by omega) (by omega)]
    refine ev_eq (ih (pre ++ [x]) (x + 1) (by omega) (by omega) (by simp; omega)) ?_
    simp [iota]; omega
theorem mark_ev (l : List Int) (x : Int) (h0 : 0 ≤ x) (h1 : x + l.length ≤ 4611686018427387904) : Ev (fun k => laws_markIntS.f k l x) (x + l.length, iota x l.length) := by
  unfold laws_markIntS.f
  have := mark_l l [] x h0 h1 (by simp; omega)
  simpa using this
theorem held_l : ∀ (n : Nat) (pre : List Int) (x : Int), 0 ≤ x → x + n ≤ 4611686018427387904 → pre.length + n ≤ 4611686018427387904 → Ev (fun k => laws_heldIntS.l0 k (pre ++ iota x n) x (pre.length : Int)) (x + n) := by
  intro n
  induction n with
  | zero =>
    intro pre x h0 h1 h2
    refine ev_succ ?_
    simp only [laws_heldIntS.l0.eq_2]
    refine ev_neg (by simp [iota]) ?_
    exact ev_now (by simp)
  | succ n ih =>
    intro pre x h0 h1 h2
    refine ev_succ ?_
    simp only [laws_heldIntS.l0.eq_2, iota, rd_mid]
    refine ev_pos (by simp; omega) (ev_pos (by omega) (ev_pos trivial ?_))
    rw [wrap_snoc (pre := pre) (c := x) (by omega), wrap_of (by omega) (by omega), show pre ++ x :: iota (x + 1) n = (pre ++ [x]) ++ iota (x + 1) n by simp]
    refine ev_eq (ih (pre ++ [x]) (x + 1) (by omega) (by omega) (by simp; omega)) ?_
    omega
theorem held_ev (n : Nat) (x : Int) (h0 : 0 ≤ x) (h1 : x + n ≤ 4611686018427387904) : Ev (fun k => laws_heldIntS.f k (iota x n) x) (x + n) := by
  unfold laws_heldIntS.f
  have := held_l n [] x h0 h1 (by simp; omega)
  simpa using this
theorem rdL_mid {rows pre suf : List (List Int)} {c : List Int} (h : rows = pre ++ c :: suf) : rd_L1 rows (pre.length : Int) = c := by rw [h]; simp [rd_L1]
theorem eqIntSS_l (rows : List (List Int)) (hl : rows.length ≤ 1048576) (hr : ∀ xs ∈ rows, xs.length * 8 ≤ 140737488351232) : ∀ (suf pre : List (List Int)), rows = pre ++ suf → Ev (fun k => laws_eqIntSS.l0 k rows rows (pre.length : Int)) true := by
  intro suf
  induction suf with
  | nil =>
    intro pre e
    have h := len_end e
    refine ev_succ ?_
    simp only [laws_eqIntSS.l0.eq_2]
    exact ev_neg (by omega) (ev_now rfl)
  | cons c suf ih =>
    intro pre e
    have h := len_mid e
    refine ev_succ ?_
    simp only [laws_eqIntSS.l0.eq_2, rdL_mid e]
    rw [wrap_snoc (pre := pre) (c := c) (by omega)]
    exact ev_pos (by omega) (ev_pos (by omega) (ev_pos (by omega) (ev_bind (eqInt_ev c c (hr c (by rw [e]; simp))) (ev_pos (by simp) (ih _ (snoc_mid e))))))
theorem eqIntSS_ev (rows : List (List Int)) (hl : rows.length ≤ 1048576) (hr : ∀ xs ∈ rows, xs.length * 8 ≤ 140737488351232) : Ev (fun k => laws_eqIntSS.f k rows rows) true := by
  unfold laws_eqIntSS.f
  exact ev_pos rfl (eqIntSS_l rows hl hr rows [] rfl)
def sumLen : List (List Int) → Nat
  | [] => 0
  | c :: s => c.length + sumLen s
def markRows : List (List Int) → Int → List (List Int)
  | [], _ => []
  | c :: s, a => iota a c.length :: markRows s (a + (c.length : Int))
theorem markRows_len : ∀ (s : List (List Int)) (a : Int), (markRows s a).length = s.length := by
  intro s
  induction s with
  | nil => intro a; rfl
  | cons c s ih => intro a; simp [markRows, ih]
theorem sumLen_le : ∀ (s : List (List Int)), (∀ xs ∈ s, xs.length ≤ 1048576) → sumLen s ≤ s.length * 1048576 := by
  intro s
  induction s with
  | nil => intro _; simp [sumLen]
  | cons c s ih =>
    intro h
    have h1 := h c (by simp)
    have h2 := ih (fun x hx => h x (by simp [hx]))
    simp only [sumLen, List.length_cons]; omega
theorem markSS_l : ∀ (s acc : List (List Int)) (a : Int), 0 ≤ a → a + sumLen s ≤ 4611686018427387904 → Ev (fun k => laws_markIntSS.go k s acc a) (a + (sumLen s : Int), acc ++ markRows s a) := by
  intro s
  induction s with
  | nil => intro acc a _ _; exact ev_now (by simp [sumLen, markRows])
  | cons c s ih =>
    intro acc a h0 h1
    simp only [sumLen] at h1
    refine ev_bind (mark_ev c a h0 (by omega)) (ev_eq (ih _ _ (by omega) (by omega)) ?_)
    simp [sumLen, markRows]; omega
theorem markSS_ev (s : List (List Int)) (h : sumLen s ≤ 4611686018427387000) : Ev (fun k => laws_markIntSS.f k s 1) (1 + (sumLen s : Int), markRows s 1) := by
  unfold laws_markIntSS.f
  have := markSS_l s [] 1 (by omega) (by omega)
  simpa using this
end

/-! ### shared: lawev2 -/
section
open Go.Proofs.Ytlkddcabjcejdaa.Base
theorem heldSS_l (rows : List (List Int)) (hl : rows.length ≤ 1048576) : ∀ (s : List (List Int)) (pre : List (List Int)) (a : Int), rows = pre ++ markRows s a → 0 ≤ a → a + sumLen s ≤ 4611686018427387904 → Ev (fun k => laws_heldIntSS.l0 k rows a (pre.length : Int)) (a + (sumLen s : Int)) := by
  intro s
  induction s with
  | nil =>
    intro pre a e _ _
    have h := len_end e
    refine ev_succ ?_
    simp only [laws_heldIntSS.l0.eq_2]
    exact ev_neg (by omega) (ev_now (by simp [sumLen]))
  | cons c s ih =>
    intro pre a e h0 h1
    simp only [sumLen] at h1
    simp only [markRows] at e
    have h := len_mid e
    refine ev_succ ?_
    simp only [laws_heldIntSS.l0.eq_2, rdL_mid e]
    rw [wrap_snoc (pre := pre) (c := iota a c.length) (by omega)]
    refine ev_pos (by omega) (ev_pos (by omega) (ev_bind (held_ev c.length a h0 (by omega)) (ev_neg (by omega) (ev_eq (ih _ _ (snoc_mid e) (by omega) (by omega)) ?_))))
    simp [sumLen]; omega
theorem heldSS_ev (s : List (List Int)) (hl : s.length ≤ 1048576) (h : sumLen s ≤ 4611686018427387000) : Ev (fun k => laws_heldIntSS.f k (markRows s 1) 1) (1 + (sumLen s : Int)) := by
  unfold laws_heldIntSS.f
  exact heldSS_l (markRows s 1) (by rw [markRows_len]; exact hl) s [] 1 rfl (by omega) (by omega)
end

end Go.Proofs.Ytlkddcabjcejdaa.MFnExactPatternsIn
