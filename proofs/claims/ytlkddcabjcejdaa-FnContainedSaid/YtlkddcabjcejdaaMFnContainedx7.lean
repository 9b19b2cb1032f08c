/- Functions that FnContained comes to, a walk for each: by wip/tools/mk.py and post.py. No condition. -/
import Derived.Test.YtlkddcabjcejdaaMFnContainedx0
import Derived.Test.YtlkddcabjcejdaaMFnContainedx4
import Derived.Test.YtlkddcabjcejdaaMFnContainedx5
import Derived.Test.YtlkddcabjcejdaaMFnContainedx6
namespace Go.Proofs.Ytlkddcabjcejdaa.MFnContained
open Go.RowKit Go.Proofs.YtlkddcabjcejdaaW.PrintWords Go.Proofs.YtlkddcabjcejdaaW.PrintLast Go.Proofs.YtlkddcabjcejdaaW.PrintMore
attribute [local go_sem] max2_int min2_int max_two min_two max_three min_three max_four min_four
set_option linter.unusedVariables false
set_option linter.unusedSimpArgs false

/-! ### impl_PatternsIn: function 30 -/
section
open Go.Proofs.Ytlkddcabjcejdaa.Base
set_option maxHeartbeats 8000000 in
set_option maxRecDepth 100000 in
theorem choose2_add_pi {σ : Type} (f : σ → List Int → σ × Bool) (I : Nat → σ → World → Prop) (gs : Nat) (c1_ c2_ : Value) (n many bS gm gw gn ga : Nat)
 (hI : ∀ b s W W', I b s W → Below W.heap.size W W' → I b s W') (hIm : ∀ b b' s W, I b s W → b' ≤ b → I b' s W)
 (hcb : ∀ b s W A c xs, I (b + 1) s W → bS ≤ W.heap.size → Kd.R (Kd.int .i64) 3 W bS (fun k => k ≠ gs) (.slice A xs.length c) xs → xs.length = many → (∀ x ∈ xs, 0 ≤ x ∧ x < (n : Int)) → Calls Try.prog 160 #[.slice A xs.length c, c1_, c2_] W fun e w' => e = .returned (.bool (f s xs).2) ∧ I b (f s xs).1 w' ∧ FrT 22 gs W w')
 (hSlt : gs < bS) (hs1 : gm ≠ gs) (hs2 : gw ≠ gs) (hs3 : gn ≠ gs) (hs4 : ga ≠ gs) (hn : n < 1073741824) :
 ∀ (r : Nat) (A : Option Addr) (c : Nat) (xs : List Int) (s : σ) (W : World) (bg : Nat), xs.length + r ≤ n → (∀ x ∈ xs, 0 ≤ x ∧ x < (n : Int)) → I (bg + 2 ^ r) s W → bS ≤ W.heap.size →
  Ch 3 27 39 W gm gw gn ga (.int .i64 (many : Int)) (.func (.func 160) #[] #[c1_, c2_]) (.int .i64 (n : Int)) (.func (.func 247) #[] #[.pointer (some ⟨gm, 0, none⟩), .pointer (some ⟨gw, 0, none⟩), .pointer (some ⟨gn, 0, none⟩), .pointer (some ⟨ga, 0, none⟩)]) →
  Kd.R (Kd.int .i64) 3 W bS (fun k => k ≠ gs) (.slice A xs.length c) xs →
  Calls Try.prog 247 #[.slice A xs.length c, .int .i64 ((n - r : Nat) : Int), .pointer (some ⟨gm, 0, none⟩), .pointer (some ⟨gw, 0, none⟩), .pointer (some ⟨gn, 0, none⟩), .pointer (some ⟨ga, 0, none⟩)] W fun e w' => e = .returned (.bool (addG f n many r xs s).2) ∧ I bg (addG f n many r xs s).1 w' ∧ FrT 22 gs W w' := by
 have HII := zk hI
 have HIM := zk hIm
 have HCB := zk hcb
 clear hI hIm hcb
 intro r
 induction r using Nat.strongRecOn with
 | ind r IH =>
  have HIH := zk IH
  clear IH
  intro A c xs s W bg hxr hxq hIs hbs hch hr
  have HCh0 := zk hch
  have HR0 := zk hr
  have HXQ := zk hxq
  clear hxq
  have HI0 := zk hIs
  clear hch hr hIs
  have cM := cell_of_one HCh0.out.hm
  have cW := cell_of_one HCh0.out.hw
  by_cases hm : xs.length = many
  · have hmb : ((xs.length : Int) == (many : Int)) = true := by simp [hm]
    have ea : addG f n many r xs s = f s xs := by unfold addG; rw [if_pos hm]
    rw [ea]
    have HM := zk hm
    clear hm ea
    go_enter Try.func247, Try.ntmps247
    go_wp2_with (go_at_call 160; refine (HCB.out bg s W A c xs (HIM.out _ _ _ _ HI0.out (by have := Nat.one_le_two_pow (n := r); omega)) hbs HR0.out HM.out HXQ.out).mono ?_; rintro e_ w2 ⟨rfl, h1, h2⟩; have HX := zk (And.intro h1 h2); clear h1 h2)
    go_ret
    exact ⟨rfl, HX.out⟩
  · have hmb : ((xs.length : Int) == (many : Int)) = false := by simp; omega
    have ea : addG f n many r xs s = loopG f n many r xs s := by unfold addG; rw [if_neg hm]
    rw [ea]
    clear cW
    obtain ⟨R, hR⟩ : ∃ R, loopG f n many r xs s = R := ⟨_, rfl⟩
    rw [hR]
    have HP := zk hR
    clear hR ea
    go_enter Try.func247, Try.ntmps247
    go_wp2
    go_loopg [9] r (fun kq v9 wr => ∃ (r1 : Nat) (s1 : σ), v9 = .int .i64 ((n - r1 : Nat) : Int) ∧ kq = r1 ∧ r1 ≤ r ∧ Aside0 (loopG f n many r1 xs s1 = R) ∧ Aside0 (I (bg + 2 ^ r1) s1 wr) ∧ Aside0 (FrT 22 gs W wr))
    case atStart => exact ⟨r, s, rfl, rfl, Nat.le_refl _, HP, HI0, ⟨FrT.refl _⟩⟩
    case round =>
     clear HP HI0 cM
     obtain ⟨r1, s1, rfl, hkq, hrr, HP, HI, HF⟩ := hrel
     obtain rfl : r1 = gk := hkq.symm
     have HCh := zk (Ch.frT (t := 22) (gs := gs) HCh0.out HF.out (by decide) (by decide) (by decide) hs1 hs2 hs3 hs4)
     have HR := zk (R_frT (by decide) HR0.out HF.out)
     have cN := cell_of_one HCh.out.hn
     cases r1 with
     | zero =>
      have e := HP.out
      simp only [loopG] at e
      subst e
      go_wp2
      go_ret
      exact ⟨rfl, HIM.out _ _ _ _ HI.out (Nat.le_add_right _ _), HF.out⟩
     | succ r1 =>
      have hlt : ((n - (r1 + 1) : Nat) : Int) < (n : Int) := by omega
      have hltb : decide (((n - (r1 + 1) : Nat) : Int) < (n : Int)) = true := decide_eq_true hlt
      have hw64 : wrap64 (((n - (r1 + 1) : Nat) : Int) + 1) = ((n - r1 : Nat) : Int) := by unfold wrap64; omega
      have HW64 := zk hw64
      clear hw64
      go_upto_region 6 with (fail)
      have hw64 := HW64.out
      refine start_ (n := 9) (S := fun w' => w'.cell? ⟨ga, 0, none⟩ = some (Value.func (Fn.func 247) #[] #[.pointer (some ⟨gm, 0, none⟩), .pointer (some ⟨gw, 0, none⟩), .pointer (some ⟨gn, 0, none⟩), .pointer (some ⟨ga, 0, none⟩)])) (ds := []) #[false, false, false, false, false, false, false, false, false] (by kernel_rfl) rfl rfl (cell_of_one HCh.out.ha) (fun hHeld => ?_)
      have HR := zk (zt HR.out)
      have HCh := zk (Ch.frT (t := 22) (gs := gs) HCh.out (FrT.of_below (below_drew (Below.refl _ _))) (by decide) (by decide) (by decide) hs1 hs2 hs3 hs4)
      replace HF := zk (HF.out.trans (FrT.of_below (below_drew (Below.refl _ _))))
      replace HI := zk (HII.out _ _ _ _ HI.out (below_drew (Below.refl _ _)))
      generalize World.drew _ = w1 at HF HI HR HCh hHeld ⊢
      have HB := zk (Below.refl w1.heap.size w1)
      refine zP (i := 1) (N := some 24) #[false, true, false, false, false, false, false, false, false] ?_
      refine zP (i := 3) (N := some 26) #[false, true, false, true, false, false, false, false, false] ?_
      refine zP (i := 6) (N := some 29) #[false, true, false, true, false, false, true, false, false] ?_
      refine zP (i := 7) (N := some 30) #[false, true, false, true, false, false, true, true, false] ?_
      refine take_ (i := 0) (N := some 23) (v := ?_) (a' := ?_) #[true, true, false, true, false, false, true, true, false] rfl rfl (by kernel_rfl) (fun _ _ _ h => h) (Or.inl ⟨by rfl, ?_⟩) hHeld ?_ ?_
      rotate_left
      · intro w' s0
        go_simp
        with_reducible rfl
      rotate_left
      · exact zQ
      refine join_ (σ := Value × Value) 2 #[true, true, true, true, true, false, true, true, false] (fun s_ => [(25, s_.1), (27, s_.2)]) (fun s_ w' => (w'.cell? ⟨ga, 0, none⟩ = some (Value.func (Fn.func 247) #[] #[.pointer (some ⟨gm, 0, none⟩), .pointer (some ⟨gw, 0, none⟩), .pointer (some ⟨gn, 0, none⟩), .pointer (some ⟨ga, 0, none⟩)])) ∧ Aside0 (Below w1.heap.size w1 w') ∧ Aside0 (Kd.R (Kd.int .i64) 3 w' w1.heap.size (fun _ => True) s_.1 xs) ∧ Aside0 (Kd.R (Kd.int .i64) 3 w' w1.heap.size (fun _ => True) s_.2 [((n - (r1 + 1) : Nat) : Int)])) ?_ ?_
      rotate_left
      · intro hCont
        refine two_ (i := 2) (j := 4) (Ni := some 25) (Nj := some 27) #[true, true, true, true, false, false, true, true, false] #[true, true, false, true, true, false, true, true, false] rfl rfl rfl rfl (by kernel_rfl) (by decide) (by decide) (fun K hK => ?_) (fun K hK => ?_)
        · skip
          refine goes_ Try.func248 (by kernel_rfl) rfl #[.slice A xs.length c] (by rfl) rfl rfl (by simp only [List.map_toArray, List.map_cons, List.map_nil]; rfl) ?_
          with_reducible refine (slices_Clone_int_int.calls A c xs xs _ (Kd.R_reads' (Kd.R_below HR.out HB.out)).2.2 (Kd.R_reads' HR.out).2.1 (by unfold slices_Clone_int_int.f; rw [if_pos (by omega)])).mono ?_
          rintro e_ w3 ⟨v25, rfl, hR25, hb3⟩
          have hz2 := HB.out.size
          have HR25 := zk (Kd.R_lower hR25 hz2)
          replace HB := zk (below_step HB.out hb3)
          clear hz2 hR25 hb3
          refine ⟨_, rfl, ?_⟩
          refine hK.out _ _ (cell_of_one (Ch.frT (t := 22) (gs := gs) HCh.out (FrT.of_below (t := 22) (gs := gs) HB.out) (by decide) (by decide) (by decide) hs1 hs2 hs3 hs4).ha) (fun hHeld => ?_)
          clear hK K
          refine zM 25 ?_
          refine one_ (i := 4) (N := some 27) #[true, true, true, true, true, false, true, true, false] rfl rfl (by kernel_rfl) (by decide) (fun K hK => ?_)
          have hz4 := HB.out.size
          refine Kd.R_lit_step (Kd.int .i64) _ 3 ?hg (N := 27) ?hd (xs := ([((n - (r1 + 1) : Nat) : Int)] : List Int)) (inner := [.int .i64 ((n - (r1 + 1) : Nat) : Int)]) (ok := fun _ => True) (okp := fun _ => True) ?hr ?hp (fun _ hk => hk) trivial (Below.refl _ _) (Nat.le_refl _) (by simp) ?_; (case hd => rfl); (case hg => rfl); (case hr => first | (go_simp; done) | (go_simp; rfl)); (case hp => exact (Reps.one (show Kd.M (Kd.int .i64) _ _ _ _ [.int .i64 _] from rfl) (Reps.none _ _)))
          intro v27 w4 hL4 hb4 hg4 hn4
          have HL27 := zk (Kd.R_lower hL4 hz4)
          replace HR25 := zk (Kd.R_below HR25.out hb4)
          replace HB := zk (below_step HB.out hb4)
          clear hz4 hL4 hb4 hg4 hn4
          refine hK.out _ _ (cell_of_one (Ch.frT (t := 22) (gs := gs) HCh.out (FrT.of_below (t := 22) (gs := gs) HB.out) (by decide) (by decide) (by decide) hs1 hs2 hs3 hs4).ha) (fun hHeld => ?_)
          clear hK K
          refine zM 27 ?_
          exact norm_ (by simp only [putAll, Act.put, List.setIfInBounds_toArray, List.set_cons_zero, List.set_cons_succ]) (hCont (v25, v27) _ ⟨hHeld, HB, HR25, HL27⟩)
        · skip
          have hz4 := HB.out.size
          refine Kd.R_lit_step (Kd.int .i64) _ 3 ?hg (N := 27) ?hd (xs := ([((n - (r1 + 1) : Nat) : Int)] : List Int)) (inner := [.int .i64 ((n - (r1 + 1) : Nat) : Int)]) (ok := fun _ => True) (okp := fun _ => True) ?hr ?hp (fun _ hk => hk) trivial (Below.refl _ _) (Nat.le_refl _) (by simp) ?_; (case hd => rfl); (case hg => rfl); (case hr => first | (go_simp; done) | (go_simp; rfl)); (case hp => exact (Reps.one (show Kd.M (Kd.int .i64) _ _ _ _ [.int .i64 _] from rfl) (Reps.none _ _)))
          intro v27 w4 hL4 hb4 hg4 hn4
          have HL27 := zk (Kd.R_lower hL4 hz4)
          replace HB := zk (below_step HB.out hb4)
          clear hz4 hL4 hb4 hg4 hn4
          refine hK.out _ _ (cell_of_one (Ch.frT (t := 22) (gs := gs) HCh.out (FrT.of_below (t := 22) (gs := gs) HB.out) (by decide) (by decide) (by decide) hs1 hs2 hs3 hs4).ha) (fun hHeld => ?_)
          clear hK K
          refine zM 27 ?_
          refine one_ (i := 2) (N := some 25) #[true, true, true, true, true, false, true, true, false] rfl rfl (by kernel_rfl) (by decide) (fun K hK => ?_)
          refine goes_ Try.func248 (by kernel_rfl) rfl #[.slice A xs.length c] (by rfl) rfl rfl (by simp only [List.map_toArray, List.map_cons, List.map_nil]; rfl) ?_
          with_reducible refine (slices_Clone_int_int.calls A c xs xs _ (Kd.R_reads' (Kd.R_below HR.out HB.out)).2.2 (Kd.R_reads' HR.out).2.1 (by unfold slices_Clone_int_int.f; rw [if_pos (by omega)])).mono ?_
          rintro e_ w3 ⟨v25, rfl, hR25, hb3⟩
          have hz2 := HB.out.size
          have HR25 := zk (Kd.R_lower hR25 hz2)
          replace HL27 := zk (Kd.R_below HL27.out hb3)
          replace HB := zk (below_step HB.out hb3)
          clear hz2 hR25 hb3
          refine ⟨_, rfl, ?_⟩
          refine hK.out _ _ (cell_of_one (Ch.frT (t := 22) (gs := gs) HCh.out (FrT.of_below (t := 22) (gs := gs) HB.out) (by decide) (by decide) (by decide) hs1 hs2 hs3 hs4).ha) (fun hHeld => ?_)
          clear hK K
          refine zM 25 ?_
          exact norm_ (by simp only [putAll, Act.put, List.setIfInBounds_toArray, List.set_cons_zero, List.set_cons_succ]) (hCont (v25, v27) _ ⟨hHeld, HB, HR25, HL27⟩)
      clear HB hHeld
      rintro ⟨v25, v27⟩ w6 ⟨hHeld, HB, HR25, HL27⟩
      obtain ⟨A25, c25, e25⟩ := Kd.R_slice HR25.out
      obtain ⟨A27, c27, e27⟩ := Kd.R_slice HL27.out
      simp only at e25 e27
      subst e25
      subst e27
      refine norm_ (a' := ?_) ?_ ?_
      rotate_left
      · simp only [putAll, Act.put, List.setIfInBounds_toArray, List.set_cons_zero, List.set_cons_succ]
        rfl
      refine one_ (i := 5) (N := some 28) #[true, true, true, true, true, true, true, true, false] rfl rfl (by kernel_rfl) (by decide) (fun K hK => ?_)
      refine Kd.R_append_rows_step (Kd.int .i64) (w0 := w1) w1.heap.size (by rfl) (.tmp 25) (.tmp 27) 22 3 (.int .i64 0) 8 rfl Try.underlying22 info3 rfl (by decide) (by omega) (.slice A25 xs.length c25) xs [((n - (r1 + 1) : Nat) : Int)] _ _ _ (fun _ => True) (fun _ => False) rfl rfl HR25.out (Kd.R_reads' HL27.out).2.2 (fun _ _ h => h) (fun _ h => h.elim) (fun _ _ => trivial) HB.out HB.out.size (by simp only [List.length_cons, List.length_nil]; omega) ?_
      intro v28 w7 ho7 hb7 hg7 hat7
      obtain ⟨A28, c28, e28⟩ := Kd.R_slice ho7
      subst e28
      replace HB := zk hb7
      have HR28 := zk ho7
      clear hat7 hg7 hb7 ho7 HL27 HR25
      refine hK.out _ _ (cell_of_one (Ch.frT (t := 22) (gs := gs) HCh.out (FrT.of_below (t := 22) (gs := gs) HB.out) (by decide) (by decide) (by decide) hs1 hs2 hs3 hs4).ha) (fun hHeld => ?_)
      clear hK K
      refine zM 28 ?_
      refine one_ (i := 8) (N := some 31) #[true, true, true, true, true, true, true, true, true] rfl rfl (by kernel_rfl) (by decide) (fun K hK => ?_)
      obtain ⟨P8, hP8⟩ : ∃ p, addG f n many r1 (xs ++ [((n - (r1 + 1) : Nat) : Int)]) s1 = p := ⟨_, rfl⟩
      have hbw : bS ≤ w1.heap.size := Nat.le_trans hbs HF.out.size
      have HC7 := zk (Ch.frT (t := 22) (gs := gs) HCh.out (FrT.of_below HB.out) (by decide) (by decide) (by decide) hs1 hs2 hs3 hs4)
      have HR7 := zk (show Kd.R (Kd.int .i64) 3 w7 bS (fun k => k ≠ gs) (.slice A28 (xs ++ [((n - (r1 + 1) : Nat) : Int)]).length c28) (xs ++ [((n - (r1 + 1) : Nat) : Int)]) from Kd.R_of_own (Kd.own_of_R (Kd.R_lower HR28.out hbw)) (fun k hk hs => by have := Kd.R_base HR28.out k hk; have := hSlt; omega))
      have H8 := HIH.out r1 (by omega) A28 c28 (xs ++ [((n - (r1 + 1) : Nat) : Int)]) s1 w7 (bg + 2 ^ r1) (by simp; omega) (fun x hx => by rcases List.mem_append.1 hx with hx | hx; exact HXQ.out x hx; (have hx := List.mem_singleton.1 hx; omega)) (HII.out _ _ _ _ (HIM.out _ _ _ _ HI.out (by rw [Nat.pow_succ]; omega)) HB.out) (Nat.le_trans hbw HB.out.size) HC7.out HR7.out
      rw [← hw64] at H8
      refine call_ 247 #[.slice A28 (xs ++ [((n - (r1 + 1) : Nat) : Int)]).length c28, .int .i64 (wrap64 (((n - (r1 + 1) : Nat) : Int) + 1)), .pointer (some ⟨gm, 0, none⟩), .pointer (some ⟨gw, 0, none⟩), .pointer (some ⟨gn, 0, none⟩), .pointer (some ⟨ga, 0, none⟩)] (by rfl) rfl ?hrun8 ?_; (case hrun8 => clear H8; go_simp; (try rfl); trace_state)
      with_reducible refine H8.mono ?_
      rintro e8 w8 ⟨he8, hI8, hF8⟩
      rw [hP8] at he8 hI8
      subst he8
      obtain ⟨s8, b8⟩ := P8
      simp only at hI8
      have HX := zk (And.intro hI8 hF8)
      have HC8 := zk (Ch.frT (t := 22) (gs := gs) HC7.out hF8 (by decide) (by decide) (by decide) hs1 hs2 hs3 hs4)
      have HP8 := zk hP8
      clear hI8 hF8 H8 hP8
      refine ⟨_, rfl, ?_⟩
      refine hK.out _ _ (cell_of_one HC8.out.ha) (fun hHeld => ?_)
      clear hK K
      refine zM 31 ?_
      refine done_ (by kernel_rfl) ?_
      have e := HP.out
      rw [loopG_succ, HP8.out] at e
      have HFF := zk (HF.out.trans ((FrT.of_below HB.out).trans HX.out.2))
      have HI8 := zk HX.out.1
      cases b8 with
      | true =>
       simp only [if_true] at e
       subst e
       try go_wp2
       go_ret
       exact ⟨rfl, HIM.out _ _ _ _ HI8.out (Nat.le_add_right _ _), HFF.out⟩
      | false =>
       simp only [Bool.false_eq_true, if_false] at e
       have HE := zk e
       clear e
       try go_wp2
       go_roundg r1
       case measure => omega
       case rel => exact ⟨r1, s8, by simp [hw64]; omega, rfl, by omega, HE, HI8, HFF⟩
set_option maxHeartbeats 8000000 in
set_option maxRecDepth 100000 in
theorem choose2_calls_pi {σ : Type} (f : σ → List Int → σ × Bool) (I : Nat → σ → World → Prop) (gs : Nat) (c1_ c2_ : Value) (n many : Nat) (s : σ) (w : World) (bg : Nat)
 (hI : ∀ b s W W', I b s W → Below W.heap.size W W' → I b s W') (hIm : ∀ b b' s W, I b s W → b' ≤ b → I b' s W)
 (hcb : ∀ b s W A c xs, I (b + 1) s W → w.heap.size ≤ W.heap.size → Kd.R (Kd.int .i64) 3 W w.heap.size (fun k => k ≠ gs) (.slice A xs.length c) xs → xs.length = many → (∀ x ∈ xs, 0 ≤ x ∧ x < (n : Int)) → Calls Try.prog 160 #[.slice A xs.length c, c1_, c2_] W fun e w' => e = .returned (.bool (f s xs).2) ∧ I b (f s xs).1 w' ∧ FrT 22 gs W w')
 (hSlt : gs < w.heap.size) (hn : n < 1073741824) (hs : I (bg + 2 ^ n) s w) :
 Calls Try.prog 159 #[.int .i64 (n : Int), .int .i64 (many : Int), .func (.func 160) #[] #[c1_, c2_]] w fun e w' => e = .returned (.tuple #[]) ∧ I bg (addG f n many n [] s).1 w' ∧ FrT 22 gs w w' := by
 have hmf : ∀ (fn : Fn) (first cap : Array Value) (w : World), (Instr.makeFunc fn first cap).run Try.prog w = .ok (.func fn first cap) w := fun _ _ _ _ => rfl
 have HII := zk hI
 have HIM := zk hIm
 have HCB := zk hcb
 have HS := zk hSlt
 have HI := zk hs
 clear hI hIm hcb hSlt hs
 have z1 : ∀ (W : World) (o : Obj), (W.alloc o).heap.size = W.heap.size + 1 := fun W o => by simp
 have hga : ((((w.alloc (Obj.cells #[Value.int IntKind.i64 ↑n]  3)).alloc (Obj.cells #[Value.int IntKind.i64 ↑many]  3)).alloc (Obj.cells #[Value.func (Fn.func 160) #[] #[c1_, c2_]] 27)).alloc (Obj.cells #[Value.nilFunc] 39)).heap[w.heap.size + 1 + 1 + 1]? = some (.cells #[Value.nilFunc] 39 (0, 0)) := by
  have := blk_new (((w.alloc (Obj.cells #[Value.int IntKind.i64 ↑n]  3)).alloc (Obj.cells #[Value.int IntKind.i64 ↑many]  3)).alloc (Obj.cells #[Value.func (Fn.func 160) #[] #[c1_, c2_]] 27)) (Obj.cells #[Value.nilFunc] 39)
  rwa [z1, z1, z1] at this
 have zc := cell_of_one hga
 have zf := free_of_one hga
 clear hga
 have hst : ∀ (fn : Fn) (x y : Array Value) (a : Addr) (W : World), (store a (.func fn x y)).run Try.prog W = stored Try.prog W a (.func fn x y) .plain := fun fn x y a W => run_store Try.prog W a _ .plain rfl
 have hbel : Below w.heap.size w (((((w.alloc (Obj.cells #[Value.int IntKind.i64 ↑n]  3)).alloc (Obj.cells #[Value.int IntKind.i64 ↑many]  3)).alloc (Obj.cells #[Value.func (Fn.func 160) #[] #[c1_, c2_]] 27)).alloc (Obj.cells #[(Value.func (Fn.func 247) #[] #[Value.pointer (some { block := w.heap.size + 1, off := 0 }), Value.pointer (some { block := w.heap.size + 1 + 1, off := 0 }), Value.pointer (some { block := w.heap.size, off := 0 }), Value.pointer (some { block := w.heap.size + 1 + 1 + 1, off := 0 })])] 39)).alloc (Obj.cells #[]  3)) := za (za (za (za (za (Below.refl _ _) _) _) _) _) _
 have hch : Ch 3 27 39 (((((w.alloc (Obj.cells #[Value.int IntKind.i64 ↑n]  3)).alloc (Obj.cells #[Value.int IntKind.i64 ↑many]  3)).alloc (Obj.cells #[Value.func (Fn.func 160) #[] #[c1_, c2_]] 27)).alloc (Obj.cells #[(Value.func (Fn.func 247) #[] #[Value.pointer (some { block := w.heap.size + 1, off := 0 }), Value.pointer (some { block := w.heap.size + 1 + 1, off := 0 }), Value.pointer (some { block := w.heap.size, off := 0 }), Value.pointer (some { block := w.heap.size + 1 + 1 + 1, off := 0 })])] 39)).alloc (Obj.cells #[]  3)) (w.heap.size + 1) (w.heap.size + 1 + 1) w.heap.size (w.heap.size + 1 + 1 + 1) (.int .i64 (many : Int)) (.func (.func 160) #[] #[c1_, c2_]) (.int .i64 (n : Int)) (Value.func (Fn.func 247) #[] #[Value.pointer (some { block := w.heap.size + 1, off := 0 }), Value.pointer (some { block := w.heap.size + 1 + 1, off := 0 }), Value.pointer (some { block := w.heap.size, off := 0 }), Value.pointer (some { block := w.heap.size + 1 + 1 + 1, off := 0 })]) := by
  refine ⟨?_, ?_, ?_, ?_⟩
  · exact blk_alloc (blk_alloc (blk_alloc (by have := blk_new (w.alloc (Obj.cells #[Value.int IntKind.i64 ↑n]  3)) (Obj.cells #[Value.int IntKind.i64 ↑many]  3); rwa [z1] at this) _) _) _
  · exact blk_alloc (blk_alloc (by have := blk_new ((w.alloc (Obj.cells #[Value.int IntKind.i64 ↑n]  3)).alloc (Obj.cells #[Value.int IntKind.i64 ↑many]  3)) (Obj.cells #[Value.func (Fn.func 160) #[] #[c1_, c2_]] 27); rwa [z1, z1] at this) _) _
  · exact blk_alloc (blk_alloc (blk_alloc (blk_alloc (blk_new w (Obj.cells #[Value.int IntKind.i64 ↑n]  3)) _) _) _) _
  · exact blk_alloc (by have := blk_new (((w.alloc (Obj.cells #[Value.int IntKind.i64 ↑n]  3)).alloc (Obj.cells #[Value.int IntKind.i64 ↑many]  3)).alloc (Obj.cells #[Value.func (Fn.func 160) #[] #[c1_, c2_]] 27)) (Obj.cells #[(Value.func (Fn.func 247) #[] #[Value.pointer (some { block := w.heap.size + 1, off := 0 }), Value.pointer (some { block := w.heap.size + 1 + 1, off := 0 }), Value.pointer (some { block := w.heap.size, off := 0 }), Value.pointer (some { block := w.heap.size + 1 + 1 + 1, off := 0 })])] 39); rwa [z1, z1, z1] at this) _
 have hrow : Kd.R (Kd.int .i64) 3 (((((w.alloc (Obj.cells #[Value.int IntKind.i64 ↑n]  3)).alloc (Obj.cells #[Value.int IntKind.i64 ↑many]  3)).alloc (Obj.cells #[Value.func (Fn.func 160) #[] #[c1_, c2_]] 27)).alloc (Obj.cells #[(Value.func (Fn.func 247) #[] #[Value.pointer (some { block := w.heap.size + 1, off := 0 }), Value.pointer (some { block := w.heap.size + 1 + 1, off := 0 }), Value.pointer (some { block := w.heap.size, off := 0 }), Value.pointer (some { block := w.heap.size + 1 + 1 + 1, off := 0 })])] 39)).alloc (Obj.cells #[]  3)) w.heap.size (fun k => k ≠ gs) (.slice (some { block := w.heap.size + 1 + 1 + 1 + 1, off := 0 }) ([] : List Int).length 0) [] :=
  Kd.R_of_own ⟨rfl, Or.inr ⟨w.heap.size + 1 + 1 + 1 + 1, 0, #[], rfl, by omega, by have := blk_new ((((w.alloc (Obj.cells #[Value.int IntKind.i64 ↑n]  3)).alloc (Obj.cells #[Value.int IntKind.i64 ↑many]  3)).alloc (Obj.cells #[Value.func (Fn.func 160) #[] #[c1_, c2_]] 27)).alloc (Obj.cells #[(Value.func (Fn.func 247) #[] #[Value.pointer (some { block := w.heap.size + 1, off := 0 }), Value.pointer (some { block := w.heap.size + 1 + 1, off := 0 }), Value.pointer (some { block := w.heap.size, off := 0 }), Value.pointer (some { block := w.heap.size + 1 + 1 + 1, off := 0 })])] 39)) (Obj.cells #[]  3); rwa [z1, z1, z1, z1] at this, Nat.le_refl _, Nat.zero_le _, rfl, rfl⟩⟩ (fun k hk hs => by
   have h1 := HS.out
   have h2 : w.heap.size + 1 + 1 + 1 + 1 = k := by simpa [Value.ownBlock] using hk
   omega)
 have H := choose2_add_pi f I gs c1_ c2_ n many w.heap.size (w.heap.size + 1) (w.heap.size + 1 + 1) w.heap.size (w.heap.size + 1 + 1 + 1) HII.out HIM.out HCB.out HS.out (by have := HS.out; omega) (by have := HS.out; omega) (by have := HS.out; omega) (by have := HS.out; omega) hn n (some { block := w.heap.size + 1 + 1 + 1 + 1, off := 0 }) 0 [] s (((((w.alloc (Obj.cells #[Value.int IntKind.i64 ↑n]  3)).alloc (Obj.cells #[Value.int IntKind.i64 ↑many]  3)).alloc (Obj.cells #[Value.func (Fn.func 160) #[] #[c1_, c2_]] 27)).alloc (Obj.cells #[(Value.func (Fn.func 247) #[] #[Value.pointer (some { block := w.heap.size + 1, off := 0 }), Value.pointer (some { block := w.heap.size + 1 + 1, off := 0 }), Value.pointer (some { block := w.heap.size, off := 0 }), Value.pointer (some { block := w.heap.size + 1 + 1 + 1, off := 0 })])] 39)).alloc (Obj.cells #[]  3)) bg (by simp) (by simp) (HII.out _ _ _ _ HI.out hbel) hbel.size hch hrow
 rw [show ((n - n : Nat) : Int) = 0 by simp] at H
 have HH := zk H
 have HBel := zk hbel
 clear H hrow hch hbel z1
 go_enter Try.func159, Try.ntmps159
 go_wp2_with (go_at_call 247; refine HH.out.mono ?_; rintro e_ w2 ⟨rfl, h1, h2⟩; have HX := zk (And.intro h1 h2); clear h1 h2)
 go_end0
 exact ⟨rfl, HX.out.1, (FrT.of_below HBel.out).trans HX.out.2⟩
theorem S_okOf {α : Type} {d : Kd α} {e : Nat} {w : World} {base : Nat} {ok : Nat → Prop} {v : Value} {xs : List α} (h : Kd.S d e w base ok v xs) : ∀ k, v.ownBlock = some k → ok k := (Kd.S_R h).1
/-- PatternsIn's captured variables: the order, and the rows so far. -/
structure Pt (tL tR tI : TypeId) (w0 W : World) (gl go : Nat) (v0 : Value) (s : List (List Int)) : Prop where
 hl : W.heap[gl]? = some (.cells #[v0] tL (0, 0))
 ho : ∃ v, W.heap[go]? = some (.cells #[v] tR (0, 0)) ∧ Kd.S (Kd.slice tI (Kd.int .i64)) tL W w0.heap.size (fun k => k ≠ gl ∧ k ≠ go) v s
 hb : Below w0.heap.size w0 W
 go_ : w0.heap.size ≤ go
 ne : gl ≠ go
theorem Pt.below {tL tR tI : TypeId} {w0 W W' : World} {gl go : Nat} {v0 : Value} {s : List (List Int)} (h : Pt tL tR tI w0 W gl go v0 s) (hb : Below W.heap.size W W') : Pt tL tR tI w0 W' gl go v0 s := by
 obtain ⟨v, h1, h2⟩ := h.ho
 exact ⟨blk_below h.hl hb, ⟨v, blk_below h1 hb, Kd.S_below h2 hb⟩, below_then h.hb h.hb.size hb, h.go_, h.ne⟩
set_option maxHeartbeats 8000000 in
set_option maxRecDepth 100000 in
theorem patterns_cb (l : List Int) (A0 : Option Addr) (c0 : Nat) (w0 : World) (gl go : Nat) (many : Nat)
 (hl0 : Kd.C (Kd.int .i64) w0 A0 l.length l) (hc0 : l.length ≤ c0)
 (hres : ∀ xs : List Int, xs.length = many → (∀ x ∈ xs, 0 ≤ x ∧ x < (l.length : Int)) → ∃ k1 k2, impl_at.f k1 l xs = some (atG l xs) ∧ impl_shape.f k2 (atG l xs) = some (shapeL (atG l xs)))
 (s : List (List Int)) (W : World) (bS : Nat) (A : Option Addr) (c : Nat) (xs : List Int) (hC : Pt 22 28 3 w0 W gl go (.slice A0 l.length c0) s) (hs1 : s.length ≤ 1000000) (hR : Kd.R (Kd.int .i64) 3 W bS (fun k => k ≠ go) (.slice A xs.length c) xs) (hx : xs.length = many) (hq : ∀ x ∈ xs, 0 ≤ x ∧ x < (l.length : Int)) :
  Calls Try.prog 160 #[.slice A xs.length c, .pointer (some ⟨go, 0, none⟩), .pointer (some ⟨gl, 0, none⟩)] W fun e w' => e = .returned (.bool false) ∧ Pt 22 28 3 w0 w' gl go (.slice A0 l.length c0) (s ++ [shapeL (atG l xs)]) ∧ FrT 22 go W w' := by
 obtain ⟨k1, k2, h1, h2⟩ := hres xs hx hq
 replace h1 := zk h1
 replace h2 := zk h2
 obtain ⟨vO, hgo, hS⟩ := hC.ho
 obtain ⟨Ao, co, eo⟩ := Kd.S_slice hS
 subst eo
 have HGO := zk hgo
 have HGL := zk hC.hl
 have HS := zk hS
 have HB0 := zk hC.hb
 have HGE := zk (And.intro hC.go_ hC.ne)
 have HR := zk hR
 have HL0 := zk hl0
 clear hR hx hq hres hl0 hC hgo hS
 go_enter Try.func160, Try.ntmps160
 go_wp2_with (fail)
 refine start_ (n := 8) (S := fun w' => w'.cell? ⟨go, 0, none⟩ = some (.slice Ao s.length co) ∧ w'.cell? ⟨gl, 0, none⟩ = some (.slice A0 l.length c0)) (ds := [7]) #[false, false, false, false, false, false, false, false] (by kernel_rfl) rfl rfl ⟨cell_of_one HGO.out, cell_of_one HGL.out⟩ (fun hHeld => ?_)
 replace HB0 := zk (below_drew HB0.out)
 have HBW := zk (below_drew (Below.refl W.heap.size W))
 replace HS := zk (Kd.S_below HS.out HBW.out)
 generalize W.drew = w1 at HB0 HBW HS hHeld ⊢
 refine zP (i := 2) (N := some 7) #[false, false, true, false, false, false, false, false] ?_
 refine take_ (i := 0) (N := some 5) (v := ?_) (a' := ?_) #[true, false, true, false, false, false, false, false] rfl rfl (by kernel_rfl) (fun _ _ _ h => h) (Or.inl ⟨by rfl, ?_⟩) hHeld ?_ ?_
 rotate_left
 · rintro w' ⟨s0, s1⟩
   go_simp
   with_reducible rfl
 rotate_left
 · exact zQ
 refine take_ (i := 1) (N := some 6) (v := ?_) (a' := ?_) #[true, true, true, false, false, false, false, false] rfl rfl (by kernel_rfl) (fun _ _ _ h => h) (Or.inl ⟨by rfl, ?_⟩) hHeld ?_ ?_
 rotate_left
 · rintro w' ⟨s0, s1⟩
   go_simp
   with_reducible rfl
 rotate_left
 · exact zQ
 refine one_ (i := 3) (N := some 8) #[true, true, true, true, false, false, false, false] rfl rfl (by kernel_rfl) (by decide) (fun K hK => ?_)
 refine goes_ Try.func162 (by kernel_rfl) rfl #[.slice A0 l.length c0, .slice A xs.length c] (by rfl) rfl rfl (by simp only [List.map_toArray, List.map_cons, List.map_nil]; rfl) ?_
 with_reducible refine (impl_at.calls k1 A0 c0 l A c xs _ _ (Kd.C_below HL0.out HB0.out) hc0 (Kd.R_reads' (Kd.R_below HR.out HBW.out)).2.2 (Kd.R_reads' HR.out).2.1 h1.out).mono ?_
 rintro e_ w2 ⟨v8, rfl, hR8, hb2⟩
 replace HB0 := zk (below_then HB0.out HB0.out.size hb2)
 replace HBW := zk (below_step HBW.out hb2)
 replace HS := zk (Kd.S_below HS.out hb2)
 obtain ⟨A8, c8, e8⟩ := Kd.R_slice hR8
 subst e8
 have HR8 := zk hR8
 clear hR8 hb2
 refine ⟨_, rfl, ?_⟩
 refine hK.out _ _ ⟨cell_of_one (blk_below HGO.out HBW.out), cell_of_one (blk_below HGL.out HBW.out)⟩ (fun hHeld => ?_)
 clear hK K
 refine zM 8 ?_
 refine one_ (i := 4) (N := some 9) #[true, true, true, true, true, false, false, false] rfl rfl (by kernel_rfl) (by decide) (fun K hK => ?_)
 refine goes_ Try.func161 (by kernel_rfl) rfl #[.slice A8 (atG l xs).length c8] (by rfl) rfl rfl (by simp only [List.map_toArray, List.map_cons, List.map_nil]; rfl) ?_
 with_reducible refine (impl_shape.calls k2 A8 c8 (atG l xs) _ _ (Kd.R_reads' HR8.out).2.2 (Kd.R_reads' HR8.out).2.1 h2.out).mono ?_
 rintro e_ w3 ⟨v9, rfl, hR9, hb3⟩
 have HSA := zk HS.out
 have HB2 := zk HB0.out.size
 have HW3 := zk hb3.size
 have HRN := zk (fun k_ (hk_ : v9.ownBlock = some k_) => show w2.heap.size ≤ k_ from Kd.R_base hR9 k_ hk_)
 have HSZ := zk (show gl < w2.heap.size ∧ go < w2.heap.size from ⟨blk_lt (blk_below HGL.out HBW.out), blk_lt (blk_below HGO.out HBW.out)⟩)
 replace HB0 := zk (below_then HB0.out HB0.out.size hb3)
 replace HBW := zk (below_step HBW.out hb3)
 replace HS := zk (Kd.S_elder' HSA.out (Kd.R_base hR9) hb3)
 obtain ⟨A9, c9, e9⟩ := Kd.R_slice hR9
 subst e9
 have HR9 := zk hR9
 clear hR9 hb3 HSA
 refine ⟨_, rfl, ?_⟩
 refine hK.out _ _ ⟨cell_of_one (blk_below HGO.out HBW.out), cell_of_one (blk_below HGL.out HBW.out)⟩ (fun hHeld => ?_)
 clear hK K
 refine zM 9 ?_
 refine one_ (i := 5) (N := some 10) #[true, true, true, true, true, true, false, false] rfl rfl (by kernel_rfl) (by decide) (fun K hK => ?_)
 refine value_ (w1 := ?_) (v := ?_) (by rfl) rfl ?_ ?_
 rotate_left 2
 · go_simp
   constructor
   · rfl
   · rfl
 refine hK.out _ _ ⟨(World.cell?_alloc_lt _ _ _ (World.block_lt_of_cell? _ _ (hHeld.1))).trans (hHeld.1), (World.cell?_alloc_lt _ _ _ (World.block_lt_of_cell? _ _ (hHeld.2))).trans (hHeld.2)⟩ (fun hHeld => ?_)
 clear hK K
 refine zM 10 ?_
 refine one_ (i := 6) (N := some 11) #[true, true, true, true, true, true, true, false] rfl rfl (by kernel_rfl) (by decide) (fun K hK => ?_)
 refine Kd.S_append_step (Kd.slice 3 (Kd.int .i64)) (w0 := w0) w0.heap.size (by rfl) (.tmp 5) (.tmp 10) 28 22 (.slice none 0 0) 24 rfl Try.underlying28 info22 rfl (by decide) (by omega) (.slice Ao s.length co) s (shapeL (atG l xs)) [.slice A9 (shapeL (atG l xs)).length c9] (fun k_ => k_ ≠ gl ∧ k_ ≠ go) (fun k_ => some k_ = (.slice A9 (shapeL (atG l xs)).length c9 : Value).ownBlock) rfl rfl ?aP ?aK ?aF ?aO ?aB ?aS ?aL ?_
 (case aP => exact Kd.M_row (Kd.R_mono (Kd.R_tight rfl (Kd.R_lower HR9.out HB2.out)) (fun _ h_ => h_)))
 (case aK => exact (fun k_ hk_ => ⟨by have h1_ := HRN.out k_ hk_.symm; have h2_ := HSZ.out; omega, fun e_ => ((Kd.R_apart' HR9.out (Kd.S_typed HS.out) (by decide)).1 k_ hk_.symm).2 e_⟩))
 (case aF => exact (fun k_ hk_ => by have h2_ := HSZ.out; have h3_ := HW3.out; omega))
 (case aO => exact (Kd.S_mono HS.out (fun k_ hk_ => ⟨hk_.1, fun e_ => hk_.2 e_⟩)))
 (case aB => exact HB0.out)
 (case aS => exact HB0.out.size)
 (case aL => have := hs1; omega)
 intro v11 w5 ho5 hb5 hg5 hat5
 have hgo5 := blk_grown (blk_below HGO.out HBW.out) hg5 (Kd.S_ne HS.out (blk_below HGO.out HBW.out) (by decide))
 have hgl5 := blk_grown (blk_below HGL.out HBW.out) hg5 (fun e_ => (S_okOf HS.out gl e_.symm).1.1 rfl)
 obtain ⟨A11, c11, e11⟩ := Kd.S_slice ho5
 subst e11
 have cf := cell_of_one hgo5
 have ff := free_of_one hgo5
 have HGO5 := zk hgo5
 have HGL5 := zk hgl5
 have HO5 := zk ho5
 have HB5 := zk hb5
 have HF5 := zk ((FrT.of_below (t := 22) (gs := go) HBW.out).trans (FrT.of_grown (t := 22) (gs := go) hg5 (Kd.S_typed HS.out)))
 clear ho5 hb5 hg5 hat5 hgo5 hgl5
 refine hK.out _ _ ⟨cf, cell_of_one HGL5.out⟩ (fun hHeld => ?_)
 clear hK K
 refine zM 11 ?_
 refine last_ (i := 7) (N := none) #[true, true, true, true, true, true, true, true] rfl rfl (by kernel_rfl) (by decide) (fun K hK => ?_)
 refine skip_ (w1 := ?_) (by rfl) rfl ?_ ?_
 rotate_left
 · go_simp
   rfl
 refine hK.out _ _ ?_
 clear hK K
 refine done_ (by kernel_rfl) ?_

 have hsl : (s ++ [shapeL (atG l xs)]).length = s.length + 1 := by simp
 go_wp2
 go_ret
 refine ⟨rfl, ⟨blk_far HGL5.out HGE.out.2 _, ⟨_, one_setCell HGO5.out, Kd.S_far ?_ (fun k_ hk_ => hk_.2) _⟩, below_set HB5.out HGE.out.1, HGE.out.1, HGE.out.2⟩, HF5.out.trans (FrT.set 0 _)⟩
 have := HO5.out
 rw [hsl] at this
 exact this
theorem S_empty {α : Type} (d : Kd α) (W : World) (base e : Nat) (ok : Nat → Prop) (hb : base ≤ W.heap.size) (hok : ok W.heap.size) : Kd.S d e (W.alloc (.cells #[] e)) base ok (.slice (some ⟨W.heap.size, 0, none⟩) ([] : List α).length 0) [] :=
 ⟨fun _ => 0, ⟨fun k hk => by
  have : W.heap.size = k := by simpa [Value.ownBlock] using hk
  subst this; exact hok, [], World.ownsRow_lit (base := base) (e := e) W #[] 0 hb (by decide) (by simp), Reps.none _ _⟩⟩
def pnF (l : List Int) (s : List (List Int)) (xs : List Int) : List (List Int) × Bool := (s ++ [shapeL (atG l xs)], false)
def pnG (l : List Int) (m : Nat) : List (List Int) := (addG (pnF l) l.length m l.length [] []).1
set_option maxHeartbeats 8000000 in
set_option maxRecDepth 100000 in
theorem patterns_calls (l : List Int) (A0 : Option Addr) (c0 : Nat) (w0 : World) (gl go : Nat) (many : Nat) (w : World)
 (hl0 : Kd.C (Kd.int .i64) w0 A0 l.length l) (hc0 : l.length ≤ c0) (hl7 : l.length ≤ 7) (hm7 : many ≤ 7)
 (hC : Pt 22 28 3 w0 w gl go (.slice A0 l.length c0) []) :
 Calls Try.prog 159 #[.int .i64 (l.length : Int), .int .i64 (many : Int), .func (.func 160) #[] #[.pointer (some ⟨go, 0, none⟩), .pointer (some ⟨gl, 0, none⟩)]] w fun e w' => e = .returned (.tuple #[]) ∧ Pt 22 28 3 w0 w' gl go (.slice A0 l.length c0) (pnG l many) ∧ (pnG l many).length ≤ 1000000 := by
 obtain ⟨v, hv, _⟩ := hC.ho
 have h2 : (2 : Nat) ^ l.length ≤ 2 ^ 7 := Nat.pow_le_pow_right (by omega) hl7
 refine (choose2_calls_pi (pnF l) (fun b s W => Pt 22 28 3 w0 W gl go (.slice A0 l.length c0) s ∧ s.length + b ≤ 1000000) go (.pointer (some ⟨go, 0, none⟩)) (.pointer (some ⟨gl, 0, none⟩)) l.length many [] w 0 (fun b s W W' h hb => ⟨h.1.below hb, h.2⟩) (fun b b' s W h hb => ⟨h.1, by have := h.2; omega⟩) ?_ (blk_lt hv) (by omega) ⟨hC, by simp; omega⟩).mono ?_
 · rintro b s W A c xs ⟨hC', hs⟩ hbs hR hx hq
   refine (patterns_cb l A0 c0 w0 gl go many hl0 hc0 (fun ys hy hyq => ?_) s W _ A c xs hC' (by omega) hR hx hq).mono ?_
   · obtain ⟨k1, h1⟩ := impl_at_ev l ys (by omega) hyq
     obtain ⟨k2, h2⟩ := impl_shape_ev (atG l ys) (by simp [atG]; omega)
     exact ⟨k1, k2, h1 k1 (Nat.le_refl _), h2 k2 (Nat.le_refl _)⟩
   · rintro e w' ⟨rfl, h1, h2⟩
     exact ⟨rfl, ⟨h1, by simp [pnF]; omega⟩, h2⟩
 · rintro e w' ⟨rfl, h1, _⟩
   exact ⟨rfl, h1.1, by have := h1.2; simp only [Nat.add_zero] at this; exact this⟩
def impl_PatternsIn.f (k : Nat) (l0 : List Int) (a1 : Int) : Option (List (List Int) × Bool) := if l0.length ≤ 140737488351232 then (if isOrd l0 = true ∧ 1 ≤ a1 ∧ a1 ≤ 7 then (impl_tidied.f (pnG l0 a1.toNat)).bind (fun t => some (t, true)) else some ([], false)) else none
set_option maxHeartbeats 8000000 in
set_option maxRecDepth 100000 in
theorem impl_PatternsIn.calls (k : Nat) (A0 : Option Addr) (c0 : Nat) (l0 : List Int) (a1 : Int) (r1 : List (List Int)) (r2 : Bool) (w : World) (hr0 : Kd.C (Kd.int .i64) w A0 l0.length l0) (hc0 : l0.length ≤ c0) (h : impl_PatternsIn.f k l0 a1 = some (r1, r2)) :
 Calls Try.prog 30 #[.slice A0 l0.length c0, .int .i64 a1] w fun e w' => ∃ v0_ : Value, e = .returned (.tuple #[v0_, .bool r2]) ∧ Kd.S (Kd.slice 3 (Kd.int .i64)) 22 w' w.heap.size (fun _ => True) v0_ r1 ∧ Below w.heap.size w w' := by
 unfold impl_PatternsIn.f at h
 by_cases hlen : l0.length ≤ 140737488351232
 · rw [if_pos hlen] at h
   have hmf : ∀ (fn : Fn) (first cap : Array Value) (w : World), (Instr.makeFunc fn first cap).run Try.prog w = .ok (.func fn first cap) w := fun _ _ _ _ => rfl
   obtain ⟨k0, hk0⟩ := impl_order_ev l0 hlen
   have K0 := zk (hk0 k0 (Nat.le_refl _))
   have HR0 := zk hr0
   have cg : (w.alloc (Obj.cells #[Value.slice A0 l0.length c0] 22)).cell? ⟨w.heap.size, 0, none⟩ = some (.slice A0 l0.length c0) := cell_of_one (blk_new w _)
   have hbl : (w.alloc (Obj.cells #[Value.slice A0 l0.length c0] 22)).heap[w.heap.size]? = some (.cells #[Value.slice A0 l0.length c0] 22 (0, 0)) := blk_new w _
   have HBL := zk hbl
   clear hk0 hr0 hlen hbl
   cases h0 : isOrd l0 with
   | false =>
    rw [if_neg (by rw [h0]; simp)] at h
    obtain ⟨rfl, rfl⟩ := Prod.mk.inj (Option.some.inj h)
    rw [h0] at K0
    clear h h0
    go_enter Try.func30, Try.ntmps30
    go_wp2_with (go_at_call 146; refine (impl_isOrder.calls k0 A0 c0 l0 false _ (zv HR0.out _) hc0 K0.out).mono ?_; rintro e_ w2 ⟨rfl, ⟨nd, rfl⟩⟩)
    go_ret2
    exact ⟨_, rfl, Kd.S_nil _ _ _ _ _, zd (za (Below.refl _ _) _) _⟩
   | true =>
    rw [h0] at K0
    by_cases h2 : 1 ≤ a1 ∧ a1 ≤ 7
    · rw [if_pos ⟨h0, h2.1, h2.2⟩] at h
      obtain ⟨t, ht, h⟩ := Option.bind_eq_some_iff.1 h
      obtain ⟨rfl, rfl⟩ := Prod.mk.inj (Option.some.inj h)
      obtain ⟨m, rfl⟩ : ∃ m : Nat, a1 = (m : Int) := ⟨a1.toNat, by omega⟩
      have K1 := zk (show impl_isSize.f (m : Int) = some true by unfold impl_isSize.f; rw [if_pos (show (m : Int) ≥ 1 from h2.1), decide_eq_true h2.2])
      have hl7 := (ord_len h0).2
      have HT := zk ht
      have HL := zk (show l0.length ≤ 7 ∧ m ≤ 7 from ⟨hl7, by omega⟩)
      clear h ht h0 h2 hl7
      go_enter Try.func30, Try.ntmps30
      go_wp2_with (first | (go_at_call 146; (with_reducible refine (impl_isOrder.calls k0 A0 c0 l0 true _ (zv HR0.out _) hc0 K0.out).mono ?_); rintro e_ w2 ⟨rfl, ⟨nd, rfl⟩⟩) | (go_at_call 158; (with_reducible refine (impl_isSize.calls (m : Int) true _ K1.out).mono ?_); rintro e_ w3 ⟨rfl, ⟨nd2, rfl⟩⟩))
      generalize hnn : nd + nd2 = nn
      refine (patterns_calls l0 A0 c0 w w.heap.size (w.heap.size + 1 + 1) m _ HR0.out hc0 HL.out.1 HL.out.2 ?hP).mono ?_
      case hP =>
       refine ⟨blk_alloc (blk_alloc (blk_drewN HBL.out _) _) _, ⟨_, by have := blk_new (((w.alloc (Obj.cells #[Value.slice A0 l0.length c0] 22)).drewN nn).alloc (Obj.cells #[] 22)) (Obj.cells #[Value.slice (some { block := w.heap.size + 1, off := 0 }) 0 0] 28); simpa using this, ?_⟩, za (za (zd (za (Below.refl _ _) _) _) _) _, by omega, by omega⟩
       refine Kd.S_alloc ?_ _
       have := S_empty (Kd.slice 3 (Kd.int .i64)) ((w.alloc (Obj.cells #[Value.slice A0 l0.length c0] 22)).drewN nn) w.heap.size 22 (fun k => k ≠ w.heap.size ∧ k ≠ w.heap.size + 1 + 1) (by simp) (by simp)
       simpa using this
      rintro e_ w4 ⟨rfl, hP, hle⟩
      obtain ⟨v, hv, hS⟩ := hP.ho
      obtain ⟨Av, cv, ev⟩ := Kd.S_slice hS
      subst ev
      have cv := cell_of_one hv
      have HS := zk hS
      have HB := zk hP.hb
      clear hP hv hS cg
      go_wp2_with (fail)
      refine (impl_tidied.own _ t w w4 Av _ _ HS.out HB.out HT.out).mono ?_
      rintro e_ w5 ⟨v5, rfl, h5, hb5⟩
      have H5 := zk (And.intro h5 hb5)
      clear h5 hb5
      go_wp2_with (fail)
      go_ret2
      exact ⟨_, rfl, H5.out⟩
    · rw [if_neg (fun hh => h2 ⟨hh.2.1, hh.2.2⟩)] at h
      obtain ⟨rfl, rfl⟩ := Prod.mk.inj (Option.some.inj h)
      have K1 := zk (show impl_isSize.f a1 = some false by
       unfold impl_isSize.f
       by_cases h3 : a1 ≥ 1
       · rw [if_pos h3, decide_eq_false (by omega)]
       · rw [if_neg h3])
      clear h h0 h2
      go_enter Try.func30, Try.ntmps30
      go_wp2_with (first | (go_at_call 146; (with_reducible refine (impl_isOrder.calls k0 A0 c0 l0 true _ (zv HR0.out _) hc0 K0.out).mono ?_); rintro e_ w2 ⟨rfl, ⟨nd, rfl⟩⟩) | (go_at_call 158; (with_reducible refine (impl_isSize.calls a1 false _ K1.out).mono ?_); rintro e_ w3 ⟨rfl, ⟨nd2, rfl⟩⟩))
      go_ret2
      exact ⟨_, rfl, Kd.S_nil _ _ _ _ _, by repeat (first | exact Below.refl _ _ | apply zd | apply za)⟩
 · rw [if_neg hlen] at h; cases h
end

/-! ### impl_IsOrder: function 35 -/
def impl_IsOrder.f (k : Nat) (l0 : List Int) : Option (Bool) := (impl_isOrder.f k l0).bind fun t265 => (some t265)
set_option maxHeartbeats 8000000 in
set_option maxRecDepth 100000 in
theorem impl_IsOrder.calls (k : Nat) (A0 : Option Addr) (c0 : Nat) (l0 : List Int) (r : Bool) (w : World) (hr0 : Kd.C (Kd.int .i64) w A0 l0.length l0) (hc0 : l0.length ≤ c0) (h : impl_IsOrder.f k l0 = some r) :
 Calls Try.prog 35 #[.slice A0 l0.length c0] w fun e w' => e = .returned (.bool r) ∧ Drawn0 w w' := by
 have HR0 := zk hr0
 have HC0 := zk hc0
 clear hr0 hc0
 have H : ((impl_isOrder.f k l0).bind fun t265 => (some t265)) = some r := h
 clear h
 replace H := Option.bind_eq_some_iff.mp H
 obtain ⟨t265, A20, H⟩ := H
 try dsimp only at H
 have A2 := zk A20
 clear A20
 obtain rfl := Option.some.inj H
 go_enter Try.func35, Try.ntmps35
 go_wp2_with (first | ((with_reducible refine gate_callee (f := 146) rfl ?_); refine zG (some 4) Try.func146 #[.slice A0 l0.length c0] ?_; (with_reducible refine (impl_isOrder.calls k _ _ l0 t265 _ ?side1 ?side2 A2.out).mono ?_); (case side1 => exact zC HR0.out); (case side2 => exact HC0.out); rintro e w' ⟨rfl, ⟨nd, rfl⟩⟩; refine ⟨_, rfl, ?_⟩))
 go_ret
 exact ⟨zX, zD⟩

/-! ### laws_vBig: function 107 -/
def laws_vBig.f (l0 : List Int) : Option (Bool) := some (decide ((l0.length : Int) > 65536))
set_option maxHeartbeats 8000000 in
set_option maxRecDepth 100000 in
theorem laws_vBig.calls (A0 : Option Addr) (c0 : Nat) (l0 : List Int) (r : Bool) (w : World) (hr0 : Kd.C (Kd.int .u8) w A0 l0.length l0) (hc0 : l0.length ≤ c0) (h : laws_vBig.f l0 = some r) :
 Calls Try.prog 107 #[.slice A0 l0.length c0] w fun e w' => e = .returned (.bool r) ∧ Drawn0 w w' := by
 have HR0 := zk hr0
 have HC0 := zk hc0
 clear hr0 hc0
 have H : (some (decide ((l0.length : Int) > 65536))) = some r := h
 clear h
 obtain rfl := Option.some.inj H
 go_enter Try.func107, Try.ntmps107
 go_wp2
 go_ret
 exact ⟨zX, zD⟩

/-! ### laws_vCut: function 114 -/
def laws_vCut.f (l0 : List Int) (a1 : Int) : Option (List Int) := if a1 > (l0.length : Int) then ((some (([] : List Int) : List Int)).bind fun y266 => (if 0 ≤ (l0.length : Int) then (if (l0.length : Int) ≤ (l0.length : Int) then ((some (l0.drop ((l0.length : Int) : Int).toNat : List Int)).bind fun y269 => (if y266.length + y269.length < 140737488355328 then ((some (y266 ++ y269 : List Int)).bind fun y273 => (if y273.length < 140737488355328 then (some (y273 ++ [((l0.length : Int)) % 256])) else (none))) else (none))) else (none)) else (none))) else ((some (([] : List Int) : List Int)).bind fun y279 => (if 0 ≤ a1 then (if a1 ≤ (l0.length : Int) then ((some (l0.drop (a1 : Int).toNat : List Int)).bind fun y282 => (if y279.length + y282.length < 140737488355328 then ((some (y279 ++ y282 : List Int)).bind fun y286 => (if y286.length < 140737488355328 then (some (y286 ++ [(a1) % 256])) else (none))) else (none))) else (none)) else (none)))
set_option maxHeartbeats 8000000 in
set_option maxRecDepth 100000 in
theorem laws_vCut.calls (A0 : Option Addr) (c0 : Nat) (l0 : List Int) (a1 : Int) (r : List Int) (w : World) (hr0 : Kd.C (Kd.int .u8) w A0 l0.length l0) (hc0 : l0.length ≤ c0) (h : laws_vCut.f l0 a1 = some r) :
 Calls Try.prog 114 #[.slice A0 l0.length c0, .int .i64 a1] w fun e w' => ∃ v0_ : Value, e = .returned (v0_) ∧ Kd.R (Kd.int .u8) 5 w' w.heap.size (fun _ => True) v0_ r ∧ Below w.heap.size w w' := by
 have HR0 := zk hr0
 have HC0 := zk hc0
 clear hr0 hc0
 have HB := zk (Below.refl w.heap.size w)
 have H := h
 unfold laws_vCut.f at H
 clear h
 by_cases c3 : a1 > (l0.length : Int)
 rotate_left
 · rw [if_neg c3] at H
   have c3b0 := decide_eq_false c3
   clear c3
   obtain ⟨y279, hy279⟩ : ∃ y_ : List Int, y_ = (([] : List Int)) := ⟨_, rfl⟩
   replace H : (if 0 ≤ a1 then (if a1 ≤ (l0.length : Int) then ((some (l0.drop (a1 : Int).toNat : List Int)).bind fun y282 => (if y279.length + y282.length < 140737488355328 then ((some (y279 ++ y282 : List Int)).bind fun y286 => (if y286.length < 140737488355328 then (some (y286 ++ [(a1) % 256])) else (none))) else (none))) else (none)) else (none)) = some r := by first | (rw [hy279]; with_reducible exact H) | (have H2_ := (Option.bind_some _ _).symm.trans H; rw [hy279]; with_reducible exact H2_) | (have H2_ := (Option.bind_some _ _).symm.trans H; with_reducible exact H2_) | with_reducible exact H | (rw [hy279]; exact H) | exact H
   have Ny279 := zk hy279
   clear hy279
   by_cases c13 : 0 ≤ a1
   rotate_left
   · rw [if_neg c13] at H
     exact absurd H (by simp)
   rw [if_pos c13] at H
   have c13b0 := eq_true c13
   have c13b1 := decide_eq_true c13
   clear c13
   by_cases c14 : a1 ≤ (l0.length : Int)
   rotate_left
   · rw [if_neg c14] at H
     exact absurd H (by simp)
   rw [if_pos c14] at H
   have c14b0 := eq_true c14
   have c14b1 := decide_eq_true c14
   clear c14
   obtain ⟨y282, hy282⟩ : ∃ y_ : List Int, y_ = (l0.drop (a1 : Int).toNat) := ⟨_, rfl⟩
   rw [← hy282] at H
   try rw [zO y282] at H
   try dsimp only at H
   have Ny282 := zk hy282
   clear hy282
   by_cases c15 : y279.length + y282.length < 140737488355328
   rotate_left
   · rw [if_neg c15] at H
     exact absurd H (by simp)
   rw [if_pos c15] at H
   have LMc15 := zk c15
   clear c15
   obtain ⟨y286, hy286⟩ : ∃ y_ : List Int, y_ = (y279 ++ y282) := ⟨_, rfl⟩
   replace H : (if y286.length < 140737488355328 then (some (y286 ++ [(a1) % 256])) else (none)) = some r := by first | (rw [hy286]; with_reducible exact H) | (have H2_ := (Option.bind_some _ _).symm.trans H; rw [hy286]; with_reducible exact H2_) | (have H2_ := (Option.bind_some _ _).symm.trans H; with_reducible exact H2_) | with_reducible exact H | (rw [hy286]; exact H) | exact H
   have Ny286 := zk hy286
   clear hy286
   by_cases c16 : y286.length < 140737488355328
   rotate_left
   · rw [if_neg c16] at H
     exact absurd H (by simp)
   rw [if_pos c16] at H
   have LMc16 := zk c16
   clear c16
   obtain ⟨y289, hy289⟩ : ∃ y_ : List Int, y_ = (y286 ++ [(a1) % 256]) := ⟨_, rfl⟩
   replace H : (some y289) = some r := by first | (rw [hy289]; with_reducible exact H) | (have H2_ := (Option.bind_some _ _).symm.trans H; rw [hy289]; with_reducible exact H2_) | (have H2_ := (Option.bind_some _ _).symm.trans H; with_reducible exact H2_) | with_reducible exact H | (rw [hy289]; exact H) | exact H
   have Ny289 := zk hy289
   clear hy289
   obtain rfl := Option.some.inj H
   go_enter Try.func114, Try.ntmps114
   go_wp2_with (first | ((with_reducible refine gate_dst (N := 11) rfl ?_); refine Kd.R_lit (Kd.int .u8) _ 5 ?hg (N := 11) ?hd (xs := ([] : List Int)) (inner := []) (ok := fun _ => True) (okp := fun _ => True) ?hr ?hp (fun _ hk => hk) trivial (Below.refl _ _) (Nat.le_refl _) (by simp) ?_; (case hd => rfl); (case hg => rfl); (case hr => first | (go_simp; done) | (go_simp; rfl)); (case hp => exact (Reps.none _ _)); intro v280 w17 ho18 hb hg_ hnew_; clear hg_ hnew_; (first | rw [← Ny279.out] at ho18 | (simp only [Int.reduceToNat] at ho18; rw [← Ny279.out] at ho18)); have HO281 := zk (Kd.R_lower ho18 (below_size (zB HB))); replace HB := zF HB hb; clear hb ho18; have q19 : (a1 : Int) ≤ ((l0.length : Int) : Int) := zo (by assumption); obtain ⟨i019, hi019, _, hsz19, _⟩ := info_parts info5; have hroom19 : l0.length ≤ c0 := HC0.out; have hC19 : Kd.C (Kd.int .u8) _ A0 l0.length l0 := HR0.out; have q019 : (0 : Int) ≤ (a1 : Int) := zo (by assumption); have hcut19 := cut_from (P := Try.prog) 40 5 .i64 Try.underlying40 hi019 1 hsz19 A0 l0.length c0 a1 q019 q19; have hr19 := Kd.C_drop (m := (a1 : Int).toNat) (c := c0) hC19 (by omega) hroom19; obtain ⟨A19, hA19⟩ : ∃ A1, A1 = (if c0 = (a1 : Int).toNat then A0 else (A0 : Option Addr).map (·.add ((a1 : Int).toNat * 1))) := ⟨_, rfl⟩; obtain ⟨c19, hc19⟩ : ∃ c1, c1 = c0 - (a1 : Int).toNat := ⟨_, rfl⟩; have hy19 : y282.length = l0.length - (a1 : Int).toNat := (by rw [Ny282.out, List.length_drop] <;> omega); rw [show (l0).drop (a1 : Int).toNat = y282 from Ny282.out.symm] at hr19; replace hr19 : Kd.C (Kd.int .u8) _ A19 y282.length y282 := (by rw [hA19]; exact hr19); rw [← hy19, ← hA19, ← hc19] at hcut19; have HR285 := zk hr19; have HC285 := zk (show y282.length ≤ c19 from by rw [hy19, hc19]; exact Nat.sub_le_sub_right hroom19 _); clear hr19 hC19 hroom19 hi019 hsz19 hc19; have KY19 := zk hy19; have KA19 := zk hA19; clear hy19 hA19; replace q19 := eq_true q19) | ((with_reducible refine gate_builtin (b := .append) (xs := #[.tmp 11, .tmp 14]) rfl ?_); at_builtin; refine Kd.R_append_rows (Kd.int .u8) (w0 := w) w.heap.size rfl (.tmp 11) (.tmp 14) 40 5 (.int .u8 0) 1 rfl Try.underlying40 info5 rfl (by decide) (by omega) v280 y279 y282 _ _ _ (fun _ => True) (fun _ => False) rfl rfl ?aO ?aR (fun _ _ h => h) (fun _ h => h.elim) ?aF ?aB ?aS ?aL ?_; (case aR => exact zC (Kd.C_below HR285.out HB.out)); (case aB => exact (zB HB)); (case aF => exact (fun _ _ => trivial)); (case aO => exact (zR HO281)); (case aS => exact (below_size (zB HB))); (case aL => have := LMc15.out; omega); intro v287 w20 ho hb hg hat; rw [← Ny286.out] at ho; have HO288 := zk (ho); replace HB := zk (hb); clear HO281; clear ho hb hg hat) | ((with_reducible refine gate_builtin (b := .append) (xs := #[.tmp 15, .tmp 18]) rfl ?_); at_builtin; refine Kd.R_append (Kd.int .u8) (w0 := w) w.heap.size rfl (.tmp 15) (.tmp 18) 40 5 (.int .u8 0) 1 rfl Try.underlying40 info5 rfl (by decide) (by omega) v287 y286 ((a1) % 256) [.int .u8 ((a1) % 256)] (fun _ => True) (fun _ => False) rfl rfl ?aP (fun _ hk => hk.elim) ?aF ?aO ?aB ?aS ?aL ?_; (case aP => exact rfl); (case aB => exact (zB HB)); (case aF => exact (fun _ _ => trivial)); (case aO => exact (zR HO288)); (case aS => exact (below_size (zB HB))); (case aL => have := LMc16.out; omega); intro v290 w21 ho hb hg hat; rw [← Ny289.out] at ho; have HO291 := zk (ho); replace HB := zk (hb); clear HO288; clear ho hb hg hat))
   go_ret
   exact ⟨_, by first | rfl | (simp [errW_none, errW_some] <;> rfl) | (simp [*, errW_none, errW_some] <;> rfl), by (with_reducible repeat (first | apply zs | apply zr | apply zt)); exact HO291.out, by repeat (first | exact HB.out | apply za | apply zd | apply ze)⟩
 rw [if_pos c3] at H
 have c3b0 := decide_eq_true c3
 clear c3
 obtain ⟨y266, hy266⟩ : ∃ y_ : List Int, y_ = (([] : List Int)) := ⟨_, rfl⟩
 replace H : (if 0 ≤ (l0.length : Int) then (if (l0.length : Int) ≤ (l0.length : Int) then ((some (l0.drop ((l0.length : Int) : Int).toNat : List Int)).bind fun y269 => (if y266.length + y269.length < 140737488355328 then ((some (y266 ++ y269 : List Int)).bind fun y273 => (if y273.length < 140737488355328 then (some (y273 ++ [((l0.length : Int)) % 256])) else (none))) else (none))) else (none)) else (none)) = some r := by first | (rw [hy266]; with_reducible exact H) | (have H2_ := (Option.bind_some _ _).symm.trans H; rw [hy266]; with_reducible exact H2_) | (have H2_ := (Option.bind_some _ _).symm.trans H; with_reducible exact H2_) | with_reducible exact H | (rw [hy266]; exact H) | exact H
 have Ny266 := zk hy266
 clear hy266
 by_cases c4 : 0 ≤ (l0.length : Int)
 rotate_left
 · rw [if_neg c4] at H
   exact absurd H (by simp)
 rw [if_pos c4] at H
 have c4b0 := eq_true c4
 have c4b1 := decide_eq_true c4
 clear c4
 by_cases c5 : (l0.length : Int) ≤ (l0.length : Int)
 rotate_left
 · rw [if_neg c5] at H
   exact absurd H (by simp)
 rw [if_pos c5] at H
 have c5b0 := eq_true c5
 have c5b1 := decide_eq_true c5
 clear c5
 obtain ⟨y269, hy269⟩ : ∃ y_ : List Int, y_ = (l0.drop ((l0.length : Int) : Int).toNat) := ⟨_, rfl⟩
 rw [← hy269] at H
 try rw [zO y269] at H
 try dsimp only at H
 have Ny269 := zk hy269
 clear hy269
 by_cases c6 : y266.length + y269.length < 140737488355328
 rotate_left
 · rw [if_neg c6] at H
   exact absurd H (by simp)
 rw [if_pos c6] at H
 have LMc6 := zk c6
 clear c6
 obtain ⟨y273, hy273⟩ : ∃ y_ : List Int, y_ = (y266 ++ y269) := ⟨_, rfl⟩
 replace H : (if y273.length < 140737488355328 then (some (y273 ++ [((l0.length : Int)) % 256])) else (none)) = some r := by first | (rw [hy273]; with_reducible exact H) | (have H2_ := (Option.bind_some _ _).symm.trans H; rw [hy273]; with_reducible exact H2_) | (have H2_ := (Option.bind_some _ _).symm.trans H; with_reducible exact H2_) | with_reducible exact H | (rw [hy273]; exact H) | exact H
 have Ny273 := zk hy273
 clear hy273
 by_cases c7 : y273.length < 140737488355328
 rotate_left
 · rw [if_neg c7] at H
   exact absurd H (by simp)
 rw [if_pos c7] at H
 have LMc7 := zk c7
 clear c7
 obtain ⟨y276, hy276⟩ : ∃ y_ : List Int, y_ = (y273 ++ [((l0.length : Int)) % 256]) := ⟨_, rfl⟩
 replace H : (some y276) = some r := by first | (rw [hy276]; with_reducible exact H) | (have H2_ := (Option.bind_some _ _).symm.trans H; rw [hy276]; with_reducible exact H2_) | (have H2_ := (Option.bind_some _ _).symm.trans H; with_reducible exact H2_) | with_reducible exact H | (rw [hy276]; exact H) | exact H
 have Ny276 := zk hy276
 clear hy276
 obtain rfl := Option.some.inj H
 go_enter Try.func114, Try.ntmps114
 go_wp2_with (first | ((with_reducible refine gate_dst (N := 11) rfl ?_); refine Kd.R_lit (Kd.int .u8) _ 5 ?hg (N := 11) ?hd (xs := ([] : List Int)) (inner := []) (ok := fun _ => True) (okp := fun _ => True) ?hr ?hp (fun _ hk => hk) trivial (Below.refl _ _) (Nat.le_refl _) (by simp) ?_; (case hd => rfl); (case hg => rfl); (case hr => first | (go_simp; done) | (go_simp; rfl)); (case hp => exact (Reps.none _ _)); intro v267 w8 ho9 hb hg_ hnew_; clear hg_ hnew_; (first | rw [← Ny266.out] at ho9 | (simp only [Int.reduceToNat] at ho9; rw [← Ny266.out] at ho9)); have HO268 := zk (Kd.R_lower ho9 (below_size (zB HB))); replace HB := zF HB hb; clear hb ho9; have q10 : ((l0.length : Int) : Int) ≤ ((l0.length : Int) : Int) := zo (by assumption); obtain ⟨i010, hi010, _, hsz10, _⟩ := info_parts info5; have hroom10 : l0.length ≤ c0 := HC0.out; have hC10 : Kd.C (Kd.int .u8) _ A0 l0.length l0 := HR0.out; have q010 : (0 : Int) ≤ ((l0.length : Int) : Int) := zo (by assumption); have hcut10 := cut_from (P := Try.prog) 40 5 .i64 Try.underlying40 hi010 1 hsz10 A0 l0.length c0 (l0.length : Int) q010 q10; have hr10 := Kd.C_drop (m := ((l0.length : Int) : Int).toNat) (c := c0) hC10 (by omega) hroom10; obtain ⟨A10, hA10⟩ : ∃ A1, A1 = (if c0 = ((l0.length : Int) : Int).toNat then A0 else (A0 : Option Addr).map (·.add (((l0.length : Int) : Int).toNat * 1))) := ⟨_, rfl⟩; obtain ⟨c10, hc10⟩ : ∃ c1, c1 = c0 - ((l0.length : Int) : Int).toNat := ⟨_, rfl⟩; have hy10 : y269.length = l0.length - ((l0.length : Int) : Int).toNat := (by rw [Ny269.out, List.length_drop] <;> omega); rw [show (l0).drop ((l0.length : Int) : Int).toNat = y269 from Ny269.out.symm] at hr10; replace hr10 : Kd.C (Kd.int .u8) _ A10 y269.length y269 := (by rw [hA10]; exact hr10); rw [← hy10, ← hA10, ← hc10] at hcut10; have HR272 := zk hr10; have HC272 := zk (show y269.length ≤ c10 from by rw [hy10, hc10]; exact Nat.sub_le_sub_right hroom10 _); clear hr10 hC10 hroom10 hi010 hsz10 hc10; have KY10 := zk hy10; have KA10 := zk hA10; clear hy10 hA10; replace q10 := eq_true q10) | ((with_reducible refine gate_builtin (b := .append) (xs := #[.tmp 11, .tmp 14]) rfl ?_); at_builtin; refine Kd.R_append_rows (Kd.int .u8) (w0 := w) w.heap.size rfl (.tmp 11) (.tmp 14) 40 5 (.int .u8 0) 1 rfl Try.underlying40 info5 rfl (by decide) (by omega) v267 y266 y269 _ _ _ (fun _ => True) (fun _ => False) rfl rfl ?aO ?aR (fun _ _ h => h) (fun _ h => h.elim) ?aF ?aB ?aS ?aL ?_; (case aR => exact zC (Kd.C_below HR272.out HB.out)); (case aB => exact (zB HB)); (case aF => exact (fun _ _ => trivial)); (case aO => exact (zR HO268)); (case aS => exact (below_size (zB HB))); (case aL => have := LMc6.out; omega); intro v274 w11 ho hb hg hat; rw [← Ny273.out] at ho; have HO275 := zk (ho); replace HB := zk (hb); clear HO268; clear ho hb hg hat) | ((with_reducible refine gate_builtin (b := .append) (xs := #[.tmp 15, .tmp 18]) rfl ?_); at_builtin; refine Kd.R_append (Kd.int .u8) (w0 := w) w.heap.size rfl (.tmp 15) (.tmp 18) 40 5 (.int .u8 0) 1 rfl Try.underlying40 info5 rfl (by decide) (by omega) v274 y273 (((l0.length : Int)) % 256) [.int .u8 (((l0.length : Int)) % 256)] (fun _ => True) (fun _ => False) rfl rfl ?aP (fun _ hk => hk.elim) ?aF ?aO ?aB ?aS ?aL ?_; (case aP => exact rfl); (case aB => exact (zB HB)); (case aF => exact (fun _ _ => trivial)); (case aO => exact (zR HO275)); (case aS => exact (below_size (zB HB))); (case aL => have := LMc7.out; omega); intro v277 w12 ho hb hg hat; rw [← Ny276.out] at ho; have HO278 := zk (ho); replace HB := zk (hb); clear HO275; clear ho hb hg hat))
 go_ret
 exact ⟨_, by first | rfl | (simp [errW_none, errW_some] <;> rfl) | (simp [*, errW_none, errW_some] <;> rfl), by (with_reducible repeat (first | apply zs | apply zr | apply zt)); exact HO278.out, by repeat (first | exact HB.out | apply za | apply zd | apply ze)⟩

/-! ### laws_vInts: function 125 -/
def laws_vInts.l0 : Nat → List Int → List Int → Int → Option (Bool)
 | 0, _, _, _ => none
 | k + 1, x0, x1, x5 => if x5 < (x0.length : Int) then (if 0 ≤ x5 then (if x5 < (x1.length : Int) then (if (rd x0 x5) = (rd x1 x5) then (laws_vInts.l0 k x0 x1 (wrap64 (x5 + 1))) else (some false)) else (none)) else (none)) else (some true)
def laws_vInts.f (k : Nat) (l0 : List Int) (l1 : List Int) : Option (Bool) := if (l0.length : Int) = (l1.length : Int) then (laws_vInts.l0 k l0 l1 0) else (some false)
set_option maxHeartbeats 8000000 in
set_option maxRecDepth 100000 in
theorem laws_vInts.calls (k : Nat) (A0 : Option Addr) (c0 : Nat) (l0 : List Int) (A1 : Option Addr) (c1 : Nat) (l1 : List Int) (r : Bool) (w : World) (hr0 : Kd.C (Kd.int .i64) w A0 l0.length l0) (hc0 : l0.length ≤ c0) (hr1 : Kd.C (Kd.int .i64) w A1 l1.length l1) (hc1 : l1.length ≤ c1) (h : laws_vInts.f k l0 l1 = some r) :
 Calls Try.prog 125 #[.slice A0 l0.length c0, .slice A1 l1.length c1] w fun e w' => e = .returned (.bool r) ∧ Drawn0 w w' := by
 have HR0 := zk hr0
 have HC0 := zk hc0
 clear hr0 hc0
 have HR1 := zk hr1
 have HC1 := zk hc1
 clear hr1 hc1
 have H := h
 unfold laws_vInts.f at H
 clear h
 by_cases c3 : (l0.length : Int) = (l1.length : Int)
 rotate_left
 · rw [if_neg c3] at H
   have c3b0 : ((l0.length : Int) == (l1.length : Int)) = false := beq_eq_false_iff_ne.mpr c3
   have c3b1 : ((l0.length : Int) != (l1.length : Int)) = true := bne_iff_ne.mpr c3
   have c3b2 : (l0.length == l1.length) = false := by first | simpa using c3 | (simp at c3 ⊢; omega)
   obtain rfl := Option.some.inj H
   go_enter Try.func125, Try.ntmps125
   go_wp2
   repeat (go_quiet (fail); try go_wp2)
   go_ret
   exact ⟨zX, zD⟩
 rw [if_pos c3] at H
 have c3b0 : ((l0.length : Int) == (l1.length : Int)) = true := beq_iff_eq.mpr c3
 have c3b1 : ((l0.length : Int) != (l1.length : Int)) = false := bne_eq_false_iff_eq.mpr c3
 have c3b2 : (l0.length == l1.length) = true := by first | simpa using c3 | (simp at c3 ⊢; omega)
 clear c3
 have H' := zk H
 clear H
 go_enter Try.func125, Try.ntmps125
 go_wp2
 repeat (go_quiet (fail); try go_wp2)
 go_loopg [5] k (fun kq v5 w' => ∃ (x5_1 : Int), v5 = .int .i64 x5_1 ∧ Aside0 (laws_vInts.l0 kq l0 l1 x5_1 = some r) ∧ Aside0 (kq ≤ k) ∧ Drawn0 w w')
 case atStart => exact ⟨(0), (by first | rfl | (simp; done) | (simp [*]; done)), H', ⟨Nat.le_refl _⟩, zD⟩
 case round =>
  clear H'
  try clear c1
  try clear p2
  try clear c3
  try clear c3b0
  try clear c3b1
  try clear c3b2
  obtain ⟨x5_1, rfl, HA, HK1, ⟨m1, rfl⟩⟩ := hrel
  cases gk with
  | zero => exact absurd HA.out (by simp [laws_vInts.l0])
  | succ k1 =>
   have H := HA.out
   clear HA
   simp only [laws_vInts.l0] at H
   by_cases c4 : x5_1 < (l0.length : Int)
   rotate_left
   · rw [if_neg c4] at H
     have c4b0 := decide_eq_false c4
     clear c4
     obtain rfl := Option.some.inj H
     go_wp2
     repeat (go_quiet (fail); try go_wp2)
     go_ret
     exact ⟨zX, zD⟩
   rw [if_pos c4] at H
   have c4b0 := decide_eq_true c4
   clear c4
   by_cases c5 : 0 ≤ x5_1
   rotate_left
   · rw [if_neg c5] at H
     exact absurd H (by simp)
   rw [if_pos c5] at H
   have c5b0 := decide_eq_true c5
   clear c5
   by_cases c6 : x5_1 < (l1.length : Int)
   rotate_left
   · rw [if_neg c6] at H
     exact absurd H (by simp)
   rw [if_pos c6] at H
   have c6b0 := decide_eq_true c6
   clear c6
   by_cases c7 : (rd l0 x5_1) = (rd l1 x5_1)
   rotate_left
   · rw [if_neg c7] at H
     have c7b0 : ((rd l0 x5_1) == (rd l1 x5_1)) = false := beq_eq_false_iff_ne.mpr c7
     have c7b1 : ((rd l0 x5_1) != (rd l1 x5_1)) = true := bne_iff_ne.mpr c7
     obtain rfl := Option.some.inj H
     have p292 : 0 ≤ (x5_1 : Int) := zo (by assumption)
     have q292 : x5_1 < (l0.length : Int) := zo (by assumption)
     obtain ⟨ad292, e292, hx292_0⟩ := Kd.at_int HR0.out x5_1 p292 q292
     cases e292
     replace p292 := eq_true p292
     replace q292 := eq_true q292
     have p293 : 0 ≤ (x5_1 : Int) := zo (by assumption)
     have q293 : x5_1 < (l1.length : Int) := zo (by assumption)
     obtain ⟨ad293, e293, hx293_0⟩ := Kd.at_int HR1.out x5_1 p293 q293
     cases e293
     replace p293 := eq_true p293
     replace q293 := eq_true q293
     go_wp2
     repeat (go_quiet (fail); try go_wp2)
     go_ret
     exact ⟨zX, zD⟩
   rw [if_pos c7] at H
   have c7b0 : ((rd l0 x5_1) == (rd l1 x5_1)) = true := beq_iff_eq.mpr c7
   have c7b1 : ((rd l0 x5_1) != (rd l1 x5_1)) = false := bne_eq_false_iff_eq.mpr c7
   clear c7
   have H' := zk H
   clear H
   have p292 : 0 ≤ (x5_1 : Int) := zo (by assumption)
   have q292 : x5_1 < (l0.length : Int) := zo (by assumption)
   obtain ⟨ad292, e292, hx292_0⟩ := Kd.at_int HR0.out x5_1 p292 q292
   cases e292
   replace p292 := eq_true p292
   replace q292 := eq_true q292
   have p293 : 0 ≤ (x5_1 : Int) := zo (by assumption)
   have q293 : x5_1 < (l1.length : Int) := zo (by assumption)
   obtain ⟨ad293, e293, hx293_0⟩ := Kd.at_int HR1.out x5_1 p293 q293
   cases e293
   replace p293 := eq_true p293
   replace q293 := eq_true q293
   go_wp2
   repeat (go_quiet (fail); try go_wp2)
   go_roundg k1
   case measure => have := HK1.out; omega
   case rel => exact ⟨(wrap64 (x5_1 + 1)), (by first | rfl | (simp; done) | (simp [*]; done)), H', ⟨by have := HK1.out; omega⟩, zD⟩

end Go.Proofs.Ytlkddcabjcejdaa.MFnContained
