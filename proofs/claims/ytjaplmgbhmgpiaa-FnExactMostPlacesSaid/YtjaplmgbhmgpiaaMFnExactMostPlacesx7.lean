/- The functions that FnExactMostPlaces comes to, with a walk for each. Made by this session's own program (wip/tools/mk.py), in the form of the kit's print; walks named in NOTES.md were written by hand. -/
import Derived.Test.YtjaplmgbhmgpiaaMFnExactMostPlacesx0
import Derived.Test.YtjaplmgbhmgpiaaMFnExactMostPlacesx5
import Derived.Test.YtjaplmgbhmgpiaaMFnExactMostPlacesx6
namespace Go.Proofs.Ytjaplmgbhmgpiaa.MFnExactMostPlaces
open Go.RowKit Go.Proofs.YtjaplmgbhmgpiaaW.PrintWords Go.Proofs.YtjaplmgbhmgpiaaW.PrintLast Go.Proofs.YtjaplmgbhmgpiaaW.PrintMore
attribute [local go_sem] max2_int min2_int max_two min_two max_three min_three max_four min_four   -- for this text's walks alone
set_option linter.unusedVariables false
set_option linter.unusedSimpArgs false

/-! ### impl_countPlaces: function 83 -/
section
open Go.Proofs.Ytjaplmgbhmgpiaa.Base
set_option maxHeartbeats 8000000 in
set_option maxRecDepth 100000 in
theorem choose_add_cp {σ : Type} (f : σ → List Int → σ × Bool) (I : σ → World → Prop) (S : Nat → Prop) (c1_ c2_ c3_ : Value) (n many bS gm gw gn ga : Nat)
    (hI : ∀ s W W', I s W → Below W.heap.size W W' → I s W')
    (hcb : ∀ s W A c xs, I s W → bS ≤ W.heap.size → Kd.R (Kd.int .i64) 3 W bS (fun k => ¬ S k) (.slice A xs.length c) xs → xs.length = many → (∀ x ∈ xs, 0 ≤ x ∧ x < (n : Int)) → Calls Try.prog 120 #[.slice A xs.length c, c1_, c2_, c3_] W fun e w' => e = .returned (.bool (f s xs).2) ∧ I (f s xs).1 w' ∧ Fr S W w')
    (hSlt : ∀ k, S k → k < bS) (hs1 : ¬ S gm) (hs2 : ¬ S gw) (hs3 : ¬ S gn) (hs4 : ¬ S ga) (hn : n < 1073741824) :
    ∀ (r : Nat) (A : Option Addr) (c : Nat) (xs : List Int) (s : σ) (W : World), xs.length + r ≤ n → (∀ x ∈ xs, 0 ≤ x ∧ x < (n : Int)) → I s W → bS ≤ W.heap.size →
      Ch 3 49 57 W gm gw gn ga (.int .i64 (many : Int)) (.func (.func 120) #[] #[c1_, c2_, c3_]) (.int .i64 (n : Int)) (.func (.func 123) #[] #[.pointer (some ⟨gm, 0, none⟩), .pointer (some ⟨gw, 0, none⟩), .pointer (some ⟨gn, 0, none⟩), .pointer (some ⟨ga, 0, none⟩)]) →
      Kd.R (Kd.int .i64) 3 W bS (fun k => ¬ S k) (.slice A xs.length c) xs →
      Calls Try.prog 123 #[.slice A xs.length c, .int .i64 ((n - r : Nat) : Int), .pointer (some ⟨gm, 0, none⟩), .pointer (some ⟨gw, 0, none⟩), .pointer (some ⟨gn, 0, none⟩), .pointer (some ⟨ga, 0, none⟩)] W fun e w' => e = .returned (.bool (addG f n many r xs s).2) ∧ I (addG f n many r xs s).1 w' ∧ Fr S W w' := by
  have HII := Aside0.mk hI
  have HCB := Aside0.mk hcb
  clear hI hcb
  intro r
  induction r using Nat.strongRecOn with
  | ind r IH =>
    have HIH := Aside0.mk IH
    clear IH
    intro A c xs s W hxr hxq hIs hbs hch hr
    have HCh0 := Aside0.mk hch
    have HR0 := Aside0.mk hr
    have HXQ := Aside0.mk hxq
    clear hxq
    have HI0 := Aside0.mk hIs
    clear hch hr hIs
    have cM := cell_of_one HCh0.out.hm
    have cW := cell_of_one HCh0.out.hw
    by_cases hm : xs.length = many
    · have hmb : ((xs.length : Int) == (many : Int)) = true := by simp [hm]
      have ea : addG f n many r xs s = f s xs := by unfold addG; rw [if_pos hm]
      rw [ea]
      have HM := Aside0.mk hm
      clear hm ea
      go_enter Try.func123, Try.ntmps123
      go_wp2_with (go_at_call 120; refine (HCB.out s W A c xs HI0.out hbs HR0.out HM.out HXQ.out).mono ?_; rintro e_ w2 ⟨rfl, h1, h2⟩; have HX := Aside0.mk (And.intro h1 h2); clear h1 h2)
      go_ret
      exact ⟨rfl, HX.out⟩
    · have hmb : ((xs.length : Int) == (many : Int)) = false := by simp; omega
      have ea : addG f n many r xs s = loopG f n many r xs s := by unfold addG; rw [if_neg hm]
      rw [ea]
      clear cW
      obtain ⟨R, hR⟩ : ∃ R, loopG f n many r xs s = R := ⟨_, rfl⟩
      rw [hR]
      have HP := Aside0.mk hR
      clear hR ea
      go_enter Try.func123, Try.ntmps123
      go_wp2
      go_loopg [9] r (fun kq v9 wr => ∃ (r1 : Nat) (s1 : σ), v9 = .int .i64 ((n - r1 : Nat) : Int) ∧ kq = r1 ∧ r1 ≤ r ∧ Aside0 (loopG f n many r1 xs s1 = R) ∧ Aside0 (I s1 wr) ∧ Aside0 (Fr S W wr))
      case atStart => exact ⟨r, s, rfl, rfl, Nat.le_refl _, HP, HI0, ⟨Fr.refl _ _⟩⟩
      case round =>
        clear HP HI0 cM
        obtain ⟨r1, s1, rfl, hkq, hrr, HP, HI, HF⟩ := hrel
        obtain rfl : r1 = gk := hkq.symm
        have HCh := Aside0.mk (HCh0.out.fr HF.out hs1 hs2 hs3 hs4)
        have HR := Aside0.mk (R_fr HR0.out HF.out)
        have cN := cell_of_one HCh.out.hn
        cases r1 with
        | zero =>
          have e := HP.out
          simp only [loopG] at e
          subst e
          go_wp2
          go_ret
          exact ⟨rfl, HI.out, HF.out⟩
        | succ r1 =>
          have hlt : ((n - (r1 + 1) : Nat) : Int) < (n : Int) := by omega
          have hltb : decide (((n - (r1 + 1) : Nat) : Int) < (n : Int)) = true := decide_eq_true hlt
          have hw64 : wrap64 (((n - (r1 + 1) : Nat) : Int) + 1) = ((n - r1 : Nat) : Int) := by unfold wrap64; omega
          have HW64 := Aside0.mk hw64
          clear hw64
          go_upto_region 6 with (fail)
          have hw64 := HW64.out
          refine start_ (n := 9) (S := fun w' => w'.cell? ⟨ga, 0, none⟩ = some (Value.func (Fn.func 123) #[] #[.pointer (some ⟨gm, 0, none⟩), .pointer (some ⟨gw, 0, none⟩), .pointer (some ⟨gn, 0, none⟩), .pointer (some ⟨ga, 0, none⟩)])) (ds := []) #[false, false, false, false, false, false, false, false, false] (by kernel_rfl) rfl rfl (cell_of_one HCh.out.ha) (fun hHeld => ?_)
          have HR := Aside0.mk (Kd.R_drew HR.out)
          have HCh := Aside0.mk (HCh.out.fr (S := S) (Fr.of_below (below_drew (Below.refl _ _))) hs1 hs2 hs3 hs4)
          replace HF := Aside0.mk (HF.out.trans (Fr.of_below (below_drew (Below.refl _ _))))
          replace HI := Aside0.mk (HII.out _ _ _ HI.out (below_drew (Below.refl _ _)))
          generalize World.drew _ = w1 at HF HI HR HCh hHeld ⊢
          have HB := Aside0.mk (Below.refl w1.heap.size w1)
          refine pure_ (i := 1) (N := some 24) (v := ?_) (a' := ?_) #[false, true, false, false, false, false, false, false, false] rfl rfl (by kernel_rfl) (fun _ _ _ h => h) (Or.inl ⟨by rfl, ?_⟩) ?_ ?_
          rotate_left
          · intro w'
            go_simp
            with_reducible rfl
          rotate_left
          · simp only [Act.put, List.setIfInBounds_toArray, List.set_cons_zero, List.set_cons_succ, i64_w, i32_w]
            rfl
          refine pure_ (i := 3) (N := some 26) (v := ?_) (a' := ?_) #[false, true, false, true, false, false, false, false, false] rfl rfl (by kernel_rfl) (fun _ _ _ h => h) (Or.inl ⟨by rfl, ?_⟩) ?_ ?_
          rotate_left
          · intro w'
            go_simp
            with_reducible rfl
          rotate_left
          · simp only [Act.put, List.setIfInBounds_toArray, List.set_cons_zero, List.set_cons_succ, i64_w, i32_w]
            rfl
          refine pure_ (i := 6) (N := some 29) (v := ?_) (a' := ?_) #[false, true, false, true, false, false, true, false, false] rfl rfl (by kernel_rfl) (fun _ _ _ h => h) (Or.inl ⟨by rfl, ?_⟩) ?_ ?_
          rotate_left
          · intro w'
            go_simp
            with_reducible rfl
          rotate_left
          · simp only [Act.put, List.setIfInBounds_toArray, List.set_cons_zero, List.set_cons_succ, i64_w, i32_w]
            rfl
          refine pure_ (i := 7) (N := some 30) (v := ?_) (a' := ?_) #[false, true, false, true, false, false, true, true, false] rfl rfl (by kernel_rfl) (fun _ _ _ h => h) (Or.inl ⟨by rfl, ?_⟩) ?_ ?_
          rotate_left
          · intro w'
            go_simp
            with_reducible rfl
          rotate_left
          · simp only [Act.put, List.setIfInBounds_toArray, List.set_cons_zero, List.set_cons_succ, i64_w, i32_w]
            rfl
          refine take_ (i := 0) (N := some 23) (v := ?_) (a' := ?_) #[true, true, false, true, false, false, true, true, false] rfl rfl (by kernel_rfl) (fun _ _ _ h => h) (Or.inl ⟨by rfl, ?_⟩) hHeld ?_ ?_
          rotate_left
          · intro w' s0
            go_simp
            with_reducible rfl
          rotate_left
          · simp only [Act.put, List.setIfInBounds_toArray, List.set_cons_zero, List.set_cons_succ, i64_w, i32_w]
            rfl
          refine join_ (σ := Value × Value) 2 #[true, true, true, true, true, false, true, true, false] (fun s_ => [(25, s_.1), (27, s_.2)]) (fun s_ w' => (w'.cell? ⟨ga, 0, none⟩ = some (Value.func (Fn.func 123) #[] #[.pointer (some ⟨gm, 0, none⟩), .pointer (some ⟨gw, 0, none⟩), .pointer (some ⟨gn, 0, none⟩), .pointer (some ⟨ga, 0, none⟩)])) ∧ Aside0 (Below w1.heap.size w1 w') ∧ Aside0 (Kd.R (Kd.int .i64) 3 w' w1.heap.size (fun _ => True) s_.1 xs) ∧ Aside0 (Kd.R (Kd.int .i64) 3 w' w1.heap.size (fun _ => True) s_.2 [((n - (r1 + 1) : Nat) : Int)])) ?_ ?_
          rotate_left
          · intro hCont
            refine two_ (i := 2) (j := 4) (Ni := some 25) (Nj := some 27) #[true, true, true, true, false, false, true, true, false] #[true, true, false, true, true, false, true, true, false] rfl rfl rfl rfl (by kernel_rfl) (by decide) (by decide) (fun K hK => ?_) (fun K hK => ?_)
            · skip
              refine goes_ Try.func124 (by kernel_rfl) rfl #[.slice A xs.length c] (by rfl) rfl rfl (by simp only [List.map_toArray, List.map_cons, List.map_nil]; rfl) ?_
              with_reducible refine (slices_Clone_int_int.calls A c xs xs _ (Kd.R_reads' (Kd.R_below HR.out HB.out)).2.2 (Kd.R_reads' HR.out).2.1 (by unfold slices_Clone_int_int.f; rw [if_pos (by omega)])).mono ?_
              rintro e_ w3 ⟨v25, rfl, hR25, hb3⟩
              have hz2 := HB.out.size
              have HR25 := Aside0.mk (Kd.R_lower hR25 hz2)
              replace HB := Aside0.mk (below_step HB.out hb3)
              clear hz2 hR25 hb3
              refine ⟨_, rfl, ?_⟩
              refine hK.out _ _ (cell_of_one (HCh.out.fr (Fr.of_below (S := S) HB.out) hs1 hs2 hs3 hs4).ha) (fun hHeld => ?_)
              clear hK K
              refine norm_ (a' := ?_) ?_ ?_
              rotate_left
              · show Act.put _ (some 25) _ = _
                simp only [Act.put, List.setIfInBounds_toArray, List.set_cons_zero, List.set_cons_succ, i64_w, i32_w]
                rfl
              refine one_ (i := 4) (N := some 27) #[true, true, true, true, true, false, true, true, false] rfl rfl (by kernel_rfl) (by decide) (fun K hK => ?_)
              have hz4 := HB.out.size
              refine Kd.R_lit_step (Kd.int .i64) _ 3 ?hg (N := 27) ?hd (xs := ([((n - (r1 + 1) : Nat) : Int)] : List Int)) (inner := [.int .i64 ((n - (r1 + 1) : Nat) : Int)]) (ok := fun _ => True) (okp := fun _ => True) ?hr ?hp (fun _ hk => hk) trivial (Below.refl _ _) (Nat.le_refl _) (by simp) ?_; (case hd => rfl); (case hg => rfl); (case hr => first | (go_simp; done) | (go_simp; rfl)); (case hp => exact (Reps.one (show Kd.M (Kd.int .i64) _ _ _ _ [.int .i64 _] from rfl) (Reps.none _ _)))
              intro v27 w4 hL4 hb4 hg4 hn4
              have HL27 := Aside0.mk (Kd.R_lower hL4 hz4)
              replace HR25 := Aside0.mk (Kd.R_below HR25.out hb4)
              replace HB := Aside0.mk (below_step HB.out hb4)
              clear hz4 hL4 hb4 hg4 hn4
              refine hK.out _ _ (cell_of_one (HCh.out.fr (Fr.of_below (S := S) HB.out) hs1 hs2 hs3 hs4).ha) (fun hHeld => ?_)
              clear hK K
              refine norm_ (a' := ?_) ?_ ?_
              rotate_left
              · show Act.put _ (some 27) _ = _
                simp only [Act.put, List.setIfInBounds_toArray, List.set_cons_zero, List.set_cons_succ, i64_w, i32_w]
                rfl
              exact norm_ (by simp only [putAll, Act.put, List.setIfInBounds_toArray, List.set_cons_zero, List.set_cons_succ]) (hCont (v25, v27) _ ⟨hHeld, HB, HR25, HL27⟩)
            · skip
              have hz4 := HB.out.size
              refine Kd.R_lit_step (Kd.int .i64) _ 3 ?hg (N := 27) ?hd (xs := ([((n - (r1 + 1) : Nat) : Int)] : List Int)) (inner := [.int .i64 ((n - (r1 + 1) : Nat) : Int)]) (ok := fun _ => True) (okp := fun _ => True) ?hr ?hp (fun _ hk => hk) trivial (Below.refl _ _) (Nat.le_refl _) (by simp) ?_; (case hd => rfl); (case hg => rfl); (case hr => first | (go_simp; done) | (go_simp; rfl)); (case hp => exact (Reps.one (show Kd.M (Kd.int .i64) _ _ _ _ [.int .i64 _] from rfl) (Reps.none _ _)))
              intro v27 w4 hL4 hb4 hg4 hn4
              have HL27 := Aside0.mk (Kd.R_lower hL4 hz4)
              replace HB := Aside0.mk (below_step HB.out hb4)
              clear hz4 hL4 hb4 hg4 hn4
              refine hK.out _ _ (cell_of_one (HCh.out.fr (Fr.of_below (S := S) HB.out) hs1 hs2 hs3 hs4).ha) (fun hHeld => ?_)
              clear hK K
              refine norm_ (a' := ?_) ?_ ?_
              rotate_left
              · show Act.put _ (some 27) _ = _
                simp only [Act.put, List.setIfInBounds_toArray, List.set_cons_zero, List.set_cons_succ, i64_w, i32_w]
                rfl
              refine one_ (i := 2) (N := some 25) #[true, true, true, true, true, false, true, true, false] rfl rfl (by kernel_rfl) (by decide) (fun K hK => ?_)
              refine goes_ Try.func124 (by kernel_rfl) rfl #[.slice A xs.length c] (by rfl) rfl rfl (by simp only [List.map_toArray, List.map_cons, List.map_nil]; rfl) ?_
              with_reducible refine (slices_Clone_int_int.calls A c xs xs _ (Kd.R_reads' (Kd.R_below HR.out HB.out)).2.2 (Kd.R_reads' HR.out).2.1 (by unfold slices_Clone_int_int.f; rw [if_pos (by omega)])).mono ?_
              rintro e_ w3 ⟨v25, rfl, hR25, hb3⟩
              have hz2 := HB.out.size
              have HR25 := Aside0.mk (Kd.R_lower hR25 hz2)
              replace HL27 := Aside0.mk (Kd.R_below HL27.out hb3)
              replace HB := Aside0.mk (below_step HB.out hb3)
              clear hz2 hR25 hb3
              refine ⟨_, rfl, ?_⟩
              refine hK.out _ _ (cell_of_one (HCh.out.fr (Fr.of_below (S := S) HB.out) hs1 hs2 hs3 hs4).ha) (fun hHeld => ?_)
              clear hK K
              refine norm_ (a' := ?_) ?_ ?_
              rotate_left
              · show Act.put _ (some 25) _ = _
                simp only [Act.put, List.setIfInBounds_toArray, List.set_cons_zero, List.set_cons_succ, i64_w, i32_w]
                rfl
              exact norm_ (by simp only [putAll, Act.put, List.setIfInBounds_toArray, List.set_cons_zero, List.set_cons_succ]) (hCont (v25, v27) _ ⟨hHeld, HB, HR25, HL27⟩)
          clear HB hHeld
          rintro ⟨v25, v27⟩ w6 ⟨hHeld, HB, HR25, HL27⟩
          obtain ⟨A25, c25, e25⟩ := Kd.R_slice HR25.out
          obtain ⟨A27, c27, e27⟩ := Kd.R_slice HL27.out
          simp only at e25 e27
          subst e25
          subst e27
          refine norm_ (a' := ?_) ?_ ?_
          rotate_left
          · simp only [putAll, Act.put, List.setIfInBounds_toArray, List.set_cons_zero, List.set_cons_succ]
            rfl
          refine one_ (i := 5) (N := some 28) #[true, true, true, true, true, true, true, true, false] rfl rfl (by kernel_rfl) (by decide) (fun K hK => ?_)
          refine Kd.R_append_rows_step (Kd.int .i64) (w0 := w1) w1.heap.size (by rfl) (.tmp 25) (.tmp 27) 22 3 (.int .i64 0) 8 rfl Try.underlying22 info3 rfl (by decide) (by omega) (.slice A25 xs.length c25) xs [((n - (r1 + 1) : Nat) : Int)] _ _ _ (fun _ => True) (fun _ => False) rfl rfl HR25.out (Kd.R_reads' HL27.out).2.2 (fun _ _ h => h) (fun _ h => h.elim) (fun _ _ => trivial) HB.out HB.out.size (by simp only [List.length_cons, List.length_nil]; omega) ?_
          intro v28 w7 ho7 hb7 hg7 hat7
          obtain ⟨A28, c28, e28⟩ := Kd.R_slice ho7
          subst e28
          replace HB := Aside0.mk hb7
          have HR28 := Aside0.mk ho7
          clear hat7 hg7 hb7 ho7 HL27 HR25
          refine hK.out _ _ (cell_of_one (HCh.out.fr (Fr.of_below (S := S) HB.out) hs1 hs2 hs3 hs4).ha) (fun hHeld => ?_)
          clear hK K
          refine norm_ (a' := ?_) ?_ ?_
          rotate_left
          · show Act.put _ (some 28) _ = _
            simp only [Act.put, List.setIfInBounds_toArray, List.set_cons_zero, List.set_cons_succ, i64_w, i32_w]
            rfl
          refine one_ (i := 8) (N := some 31) #[true, true, true, true, true, true, true, true, true] rfl rfl (by kernel_rfl) (by decide) (fun K hK => ?_)
          obtain ⟨P8, hP8⟩ : ∃ p, addG f n many r1 (xs ++ [((n - (r1 + 1) : Nat) : Int)]) s1 = p := ⟨_, rfl⟩
          have hbw : bS ≤ w1.heap.size := Nat.le_trans hbs HF.out.size
          have HC7 := Aside0.mk (HCh.out.fr (S := S) (Fr.of_below HB.out) hs1 hs2 hs3 hs4)
          have HR7 := Aside0.mk (show Kd.R (Kd.int .i64) 3 w7 bS (fun k => ¬ S k) (.slice A28 (xs ++ [((n - (r1 + 1) : Nat) : Int)]).length c28) (xs ++ [((n - (r1 + 1) : Nat) : Int)]) from Kd.R_of_own (Kd.own_of_R (Kd.R_lower HR28.out hbw)) (fun k hk hs => by have := Kd.R_base HR28.out k hk; have := hSlt k hs; omega))
          have H8 := HIH.out r1 (by omega) A28 c28 (xs ++ [((n - (r1 + 1) : Nat) : Int)]) s1 w7 (by simp; omega) (fun x hx => by rcases List.mem_append.1 hx with hx | hx; exact HXQ.out x hx; (have hx := List.mem_singleton.1 hx; omega)) (HII.out _ _ _ HI.out HB.out) (Nat.le_trans hbw HB.out.size) HC7.out HR7.out
          rw [← hw64] at H8
          refine call_ 123 #[.slice A28 (xs ++ [((n - (r1 + 1) : Nat) : Int)]).length c28, .int .i64 (wrap64 (((n - (r1 + 1) : Nat) : Int) + 1)), .pointer (some ⟨gm, 0, none⟩), .pointer (some ⟨gw, 0, none⟩), .pointer (some ⟨gn, 0, none⟩), .pointer (some ⟨ga, 0, none⟩)] (by rfl) rfl ?hrun8 ?_; (case hrun8 => clear H8; go_simp; (try rfl); trace_state)
          with_reducible refine H8.mono ?_
          rintro e8 w8 ⟨he8, hI8, hF8⟩
          rw [hP8] at he8 hI8
          subst he8
          obtain ⟨s8, b8⟩ := P8
          simp only at hI8
          have HX := Aside0.mk (And.intro hI8 hF8)
          have HC8 := Aside0.mk (HC7.out.fr hF8 hs1 hs2 hs3 hs4)
          have HP8 := Aside0.mk hP8
          clear hI8 hF8 H8 hP8
          refine ⟨_, rfl, ?_⟩
          refine hK.out _ _ (cell_of_one HC8.out.ha) (fun hHeld => ?_)
          clear hK K
          refine norm_ (a' := ?_) ?_ ?_
          rotate_left
          · show Act.put _ (some 31) _ = _
            simp only [Act.put, List.setIfInBounds_toArray, List.set_cons_zero, List.set_cons_succ, i64_w, i32_w]
            rfl
          refine done_ (by kernel_rfl) ?_
          have e := HP.out
          rw [loopG_succ, HP8.out] at e
          have HFF := Aside0.mk (HF.out.trans ((Fr.of_below HB.out).trans HX.out.2))
          have HI8 := Aside0.mk HX.out.1
          cases b8 with
          | true =>
            simp only [if_true] at e
            subst e
            try go_wp2
            go_ret
            exact ⟨rfl, HI8.out, HFF.out⟩
          | false =>
            simp only [Bool.false_eq_true, if_false] at e
            have HE := Aside0.mk e
            clear e
            try go_wp2
            go_roundg r1
            case measure => omega
            case rel => exact ⟨r1, s8, by simp [hw64]; omega, rfl, by omega, HE, HI8, HFF⟩
set_option maxHeartbeats 8000000 in
set_option maxRecDepth 100000 in
theorem choose_calls_cp {σ : Type} (f : σ → List Int → σ × Bool) (I : σ → World → Prop) (S : Nat → Prop) (c1_ c2_ c3_ : Value) (n many : Nat) (s : σ) (w : World)
    (hI : ∀ s W W', I s W → Below W.heap.size W W' → I s W')
    (hcb : ∀ s W A c xs, I s W → w.heap.size ≤ W.heap.size → Kd.R (Kd.int .i64) 3 W w.heap.size (fun k => ¬ S k) (.slice A xs.length c) xs → xs.length = many → (∀ x ∈ xs, 0 ≤ x ∧ x < (n : Int)) → Calls Try.prog 120 #[.slice A xs.length c, c1_, c2_, c3_] W fun e w' => e = .returned (.bool (f s xs).2) ∧ I (f s xs).1 w' ∧ Fr S W w')
    (hSlt : ∀ k, S k → k < w.heap.size) (hn : n < 1073741824) (hs : I s w) :
    Calls Try.prog 92 #[.int .i64 (n : Int), .int .i64 (many : Int), .func (.func 120) #[] #[c1_, c2_, c3_]] w fun e w' => e = .returned (.tuple #[]) ∧ I (addG f n many n [] s).1 w' ∧ Fr S w w' := by
  have hmf : ∀ (fn : Fn) (first cap : Array Value) (w : World), (Instr.makeFunc fn first cap).run Try.prog w = .ok (.func fn first cap) w := fun _ _ _ _ => rfl
  have HII := Aside0.mk hI
  have HCB := Aside0.mk hcb
  have HS := Aside0.mk hSlt
  have HI := Aside0.mk hs
  clear hI hcb hSlt hs
  have z1 : ∀ (W : World) (o : Obj), (W.alloc o).heap.size = W.heap.size + 1 := fun W o => by simp
  have hga : ((((w.alloc (Obj.cells #[Value.int IntKind.i64 ↑n]  3)).alloc (Obj.cells #[Value.int IntKind.i64 ↑many]  3)).alloc (Obj.cells #[Value.func (Fn.func 120) #[] #[c1_, c2_, c3_]] 49)).alloc (Obj.cells #[Value.nilFunc] 57)).heap[w.heap.size + 1 + 1 + 1]? = some (.cells #[Value.nilFunc] 57 (0, 0)) := by
    have := blk_new (((w.alloc (Obj.cells #[Value.int IntKind.i64 ↑n]  3)).alloc (Obj.cells #[Value.int IntKind.i64 ↑many]  3)).alloc (Obj.cells #[Value.func (Fn.func 120) #[] #[c1_, c2_, c3_]] 49)) (Obj.cells #[Value.nilFunc] 57)
    rwa [z1, z1, z1] at this
  have zc := cell_of_one hga
  have zf := free_of_one hga
  clear hga
  have hst : ∀ (fn : Fn) (x y : Array Value) (a : Addr) (W : World), (store a (.func fn x y)).run Try.prog W = stored Try.prog W a (.func fn x y) .plain := fun fn x y a W => run_store Try.prog W a _ .plain rfl
  have hbel : Below w.heap.size w (((((w.alloc (Obj.cells #[Value.int IntKind.i64 ↑n]  3)).alloc (Obj.cells #[Value.int IntKind.i64 ↑many]  3)).alloc (Obj.cells #[Value.func (Fn.func 120) #[] #[c1_, c2_, c3_]] 49)).alloc (Obj.cells #[(Value.func (Fn.func 123) #[] #[Value.pointer (some { block := w.heap.size + 1, off := 0 }), Value.pointer (some { block := w.heap.size + 1 + 1, off := 0 }), Value.pointer (some { block := w.heap.size, off := 0 }), Value.pointer (some { block := w.heap.size + 1 + 1 + 1, off := 0 })])] 57)).alloc (Obj.cells #[]  3)) := below_alloc (below_alloc (below_alloc (below_alloc (below_alloc (Below.refl _ _) _) _) _) _) _
  have hch : Ch 3 49 57 (((((w.alloc (Obj.cells #[Value.int IntKind.i64 ↑n]  3)).alloc (Obj.cells #[Value.int IntKind.i64 ↑many]  3)).alloc (Obj.cells #[Value.func (Fn.func 120) #[] #[c1_, c2_, c3_]] 49)).alloc (Obj.cells #[(Value.func (Fn.func 123) #[] #[Value.pointer (some { block := w.heap.size + 1, off := 0 }), Value.pointer (some { block := w.heap.size + 1 + 1, off := 0 }), Value.pointer (some { block := w.heap.size, off := 0 }), Value.pointer (some { block := w.heap.size + 1 + 1 + 1, off := 0 })])] 57)).alloc (Obj.cells #[]  3)) (w.heap.size + 1) (w.heap.size + 1 + 1) w.heap.size (w.heap.size + 1 + 1 + 1) (.int .i64 (many : Int)) (.func (.func 120) #[] #[c1_, c2_, c3_]) (.int .i64 (n : Int)) (Value.func (Fn.func 123) #[] #[Value.pointer (some { block := w.heap.size + 1, off := 0 }), Value.pointer (some { block := w.heap.size + 1 + 1, off := 0 }), Value.pointer (some { block := w.heap.size, off := 0 }), Value.pointer (some { block := w.heap.size + 1 + 1 + 1, off := 0 })]) := by
    refine ⟨?_, ?_, ?_, ?_⟩
    · exact blk_alloc (blk_alloc (blk_alloc (by have := blk_new (w.alloc (Obj.cells #[Value.int IntKind.i64 ↑n]  3)) (Obj.cells #[Value.int IntKind.i64 ↑many]  3); rwa [z1] at this) _) _) _
    · exact blk_alloc (blk_alloc (by have := blk_new ((w.alloc (Obj.cells #[Value.int IntKind.i64 ↑n]  3)).alloc (Obj.cells #[Value.int IntKind.i64 ↑many]  3)) (Obj.cells #[Value.func (Fn.func 120) #[] #[c1_, c2_, c3_]] 49); rwa [z1, z1] at this) _) _
    · exact blk_alloc (blk_alloc (blk_alloc (blk_alloc (blk_new w (Obj.cells #[Value.int IntKind.i64 ↑n]  3)) _) _) _) _
    · exact blk_alloc (by have := blk_new (((w.alloc (Obj.cells #[Value.int IntKind.i64 ↑n]  3)).alloc (Obj.cells #[Value.int IntKind.i64 ↑many]  3)).alloc (Obj.cells #[Value.func (Fn.func 120) #[] #[c1_, c2_, c3_]] 49)) (Obj.cells #[(Value.func (Fn.func 123) #[] #[Value.pointer (some { block := w.heap.size + 1, off := 0 }), Value.pointer (some { block := w.heap.size + 1 + 1, off := 0 }), Value.pointer (some { block := w.heap.size, off := 0 }), Value.pointer (some { block := w.heap.size + 1 + 1 + 1, off := 0 })])] 57); rwa [z1, z1, z1] at this) _
  have hrow : Kd.R (Kd.int .i64) 3 (((((w.alloc (Obj.cells #[Value.int IntKind.i64 ↑n]  3)).alloc (Obj.cells #[Value.int IntKind.i64 ↑many]  3)).alloc (Obj.cells #[Value.func (Fn.func 120) #[] #[c1_, c2_, c3_]] 49)).alloc (Obj.cells #[(Value.func (Fn.func 123) #[] #[Value.pointer (some { block := w.heap.size + 1, off := 0 }), Value.pointer (some { block := w.heap.size + 1 + 1, off := 0 }), Value.pointer (some { block := w.heap.size, off := 0 }), Value.pointer (some { block := w.heap.size + 1 + 1 + 1, off := 0 })])] 57)).alloc (Obj.cells #[]  3)) w.heap.size (fun k => ¬ S k) (.slice (some { block := w.heap.size + 1 + 1 + 1 + 1, off := 0 }) ([] : List Int).length 0) [] :=
    Kd.R_of_own ⟨rfl, Or.inr ⟨w.heap.size + 1 + 1 + 1 + 1, 0, #[], rfl, by omega, by have := blk_new ((((w.alloc (Obj.cells #[Value.int IntKind.i64 ↑n]  3)).alloc (Obj.cells #[Value.int IntKind.i64 ↑many]  3)).alloc (Obj.cells #[Value.func (Fn.func 120) #[] #[c1_, c2_, c3_]] 49)).alloc (Obj.cells #[(Value.func (Fn.func 123) #[] #[Value.pointer (some { block := w.heap.size + 1, off := 0 }), Value.pointer (some { block := w.heap.size + 1 + 1, off := 0 }), Value.pointer (some { block := w.heap.size, off := 0 }), Value.pointer (some { block := w.heap.size + 1 + 1 + 1, off := 0 })])] 57)) (Obj.cells #[]  3); rwa [z1, z1, z1, z1] at this, Nat.le_refl _, Nat.zero_le _, rfl, rfl⟩⟩ (fun k hk hs => by
      have h1 := HS.out k hs
      have h2 : w.heap.size + 1 + 1 + 1 + 1 = k := by simpa [Value.ownBlock] using hk
      omega)
  have H := choose_add_cp f I S c1_ c2_ c3_ n many w.heap.size (w.heap.size + 1) (w.heap.size + 1 + 1) w.heap.size (w.heap.size + 1 + 1 + 1) HII.out HCB.out HS.out (fun h => by have := HS.out _ h; omega) (fun h => by have := HS.out _ h; omega) (fun h => by have := HS.out _ h; omega) (fun h => by have := HS.out _ h; omega) hn n (some { block := w.heap.size + 1 + 1 + 1 + 1, off := 0 }) 0 [] s (((((w.alloc (Obj.cells #[Value.int IntKind.i64 ↑n]  3)).alloc (Obj.cells #[Value.int IntKind.i64 ↑many]  3)).alloc (Obj.cells #[Value.func (Fn.func 120) #[] #[c1_, c2_, c3_]] 49)).alloc (Obj.cells #[(Value.func (Fn.func 123) #[] #[Value.pointer (some { block := w.heap.size + 1, off := 0 }), Value.pointer (some { block := w.heap.size + 1 + 1, off := 0 }), Value.pointer (some { block := w.heap.size, off := 0 }), Value.pointer (some { block := w.heap.size + 1 + 1 + 1, off := 0 })])] 57)).alloc (Obj.cells #[]  3)) (by simp) (by simp) (HII.out _ _ _ HI.out hbel) hbel.size hch hrow
  rw [show ((n - n : Nat) : Int) = 0 by simp] at H
  have HH := Aside0.mk H
  have HBel := Aside0.mk hbel
  clear H hrow hch hbel z1
  go_enter Try.func92, Try.ntmps92
  go_wp2_with (go_at_call 123; refine HH.out.mono ?_; rintro e_ w2 ⟨rfl, h1, h2⟩; have HX := Aside0.mk (And.intro h1 h2); clear h1 h2)
  go_end0
  exact ⟨rfl, HX.out.1, (Fr.of_below HBel.out).trans HX.out.2⟩
/-- countPlaces' captured variables: the two lists' and the count. -/
structure Cp (tL tI : TypeId) (w0 W : World) (gl gp gm : Nat) (v0 v1 : Value) (s : Int) : Prop where
  hl : W.heap[gl]? = some (.cells #[v0] tL (0, 0))
  hp : W.heap[gp]? = some (.cells #[v1] tL (0, 0))
  hm : W.heap[gm]? = some (.cells #[.int .i64 s] tI (0, 0))
  hb : Below w0.heap.size w0 W
  gm_ : w0.heap.size ≤ gm
  n1 : tL ≠ tI
theorem Cp.below {tL tI : TypeId} {w0 W W' : World} {gl gp gm : Nat} {v0 v1 : Value} {s : Int} (h : Cp tL tI w0 W gl gp gm v0 v1 s) (hb : Below W.heap.size W W') : Cp tL tI w0 W' gl gp gm v0 v1 s :=
  ⟨blk_below h.hl hb, blk_below h.hp hb, blk_below h.hm hb, below_step h.hb hb, h.gm_, h.n1⟩
theorem Cp.put {tL tI : TypeId} {w0 W : World} {gl gp gm : Nat} {v0 v1 : Value} {s : Int} (h : Cp tL tI w0 W gl gp gm v0 v1 s) (s' : Int) : Cp tL tI w0 (W.setCell ⟨gm, 0, none⟩ (.int .i64 s')) gl gp gm v0 v1 s' :=
  ⟨blk_far h.hl (blk_ne h.hl h.hm h.n1) _, blk_far h.hp (blk_ne h.hp h.hm h.n1) _, one_setCell h.hm, h.hb.setCell h.gm_ _, h.gm_, h.n1⟩
set_option maxHeartbeats 8000000 in
set_option maxRecDepth 100000 in
theorem countPlaces_cb (l p : List Int) (A0 A1 : Option Addr) (c0 c1 : Nat) (w0 : World) (gl gp gm : Nat) (atl shp : List Int → List Int) (many : Nat)
    (hl0 : Kd.C (Kd.int .i64) w0 A0 l.length l) (hc0 : l.length ≤ c0) (hp0 : Kd.C (Kd.int .i64) w0 A1 p.length p) (hc1 : p.length ≤ c1)
    (hres : ∀ xs : List Int, xs.length = many → (∀ x ∈ xs, 0 ≤ x ∧ x < (l.length : Int)) → ∃ k1 k2 k3, impl_at.f k1 l xs = some (atl xs) ∧ impl_shape.f k2 (atl xs) = some (shp xs) ∧ slices_Equal_int_int.f k3 (shp xs) p = some (decide (shp xs = p))) :
    ∀ (s : Int) (W : World) (bS : Nat) (A : Option Addr) (c : Nat) (xs : List Int), Cp 22 3 w0 W gl gp gm (.slice A0 l.length c0) (.slice A1 p.length c1) s → Kd.R (Kd.int .i64) 3 W bS (fun k => ¬ (k = gm)) (.slice A xs.length c) xs → xs.length = many → (∀ x ∈ xs, 0 ≤ x ∧ x < (l.length : Int)) →
      Calls Try.prog 120 #[.slice A xs.length c, .pointer (some ⟨gl, 0, none⟩), .pointer (some ⟨gp, 0, none⟩), .pointer (some ⟨gm, 0, none⟩)] W fun e w' => e = .returned (.bool false) ∧ Cp 22 3 w0 w' gl gp gm (.slice A0 l.length c0) (.slice A1 p.length c1) (if shp xs = p then wrap64 (s + 1) else s) ∧ Fr (fun k => k = gm) W w' := by
  intro s W bS A c xs hC hR hx hq
  obtain ⟨s2, hs2⟩ : ∃ s2, (if shp xs = p then wrap64 (s + 1) else s) = s2 := ⟨_, rfl⟩
  rw [hs2]
  have HS2 := Aside0.mk hs2
  clear hs2
  obtain ⟨k1, k2, k3, h1, h2, h3⟩ := hres xs hx hq
  replace h1 := Aside0.mk h1
  replace h2 := Aside0.mk h2
  replace h3 := Aside0.mk h3
  have HC := Aside0.mk hC
  have HR := Aside0.mk hR
  have HL0 := Aside0.mk hl0
  have HP0 := Aside0.mk hp0
  clear hC hR hx hq hres hl0 hp0
  go_enter Try.func120, Try.ntmps120
  go_wp2_with (fail)
  refine start_ (n := 6) (S := fun w' => w'.cell? ⟨gl, 0, none⟩ = some (.slice A0 l.length c0) ∧ w'.cell? ⟨gp, 0, none⟩ = some (.slice A1 p.length c1)) (ds := []) #[false, false, false, false, false, false] (by kernel_rfl) rfl rfl ⟨cell_of_one HC.out.hl, cell_of_one HC.out.hp⟩ (fun hHeld => ?_)
  replace HC := Aside0.mk (HC.out.below (below_drew (Below.refl _ _)))
  replace HR := Aside0.mk (Kd.R_drew HR.out)
  have HF := Aside0.mk (Fr.of_below (S := fun k => k = gm) (below_drew (Below.refl W.heap.size W)))
  generalize W.drew = w1 at HC HR HF hHeld ⊢
  have HB := Aside0.mk (Below.refl w1.heap.size w1)
  refine pure_ (i := 1) (N := some 7) (v := ?_) (a' := ?_) #[false, true, false, false, false, false] rfl rfl (by kernel_rfl) (fun _ _ _ h => h) (Or.inl ⟨by rfl, ?_⟩) ?_ ?_
  rotate_left
  · intro w'
    go_simp
    with_reducible rfl
  rotate_left
  · simp only [Act.put, List.setIfInBounds_toArray, List.set_cons_zero, List.set_cons_succ, i64_w, i32_w]
    rfl
  refine take_ (i := 0) (N := some 6) (v := ?_) (a' := ?_) #[true, true, false, false, false, false] rfl rfl (by kernel_rfl) (fun _ _ _ h => h) (Or.inl ⟨by rfl, ?_⟩) hHeld ?_ ?_
  rotate_left
  · rintro w' ⟨s0, s1⟩
    go_simp
    with_reducible rfl
  rotate_left
  · simp only [Act.put, List.setIfInBounds_toArray, List.set_cons_zero, List.set_cons_succ, i64_w, i32_w]
    rfl
  refine take_ (i := 4) (N := some 10) (v := ?_) (a' := ?_) #[true, true, false, false, true, false] rfl rfl (by kernel_rfl) (fun _ _ _ h => h) (Or.inl ⟨by rfl, ?_⟩) hHeld ?_ ?_
  rotate_left
  · rintro w' ⟨s0, s1⟩
    go_simp
    with_reducible rfl
  rotate_left
  · simp only [Act.put, List.setIfInBounds_toArray, List.set_cons_zero, List.set_cons_succ, i64_w, i32_w]
    rfl
  refine one_ (i := 2) (N := some 8) #[true, true, true, false, true, false] rfl rfl (by kernel_rfl) (by decide) (fun K hK => ?_)
  refine goes_ Try.func95 (by kernel_rfl) rfl #[.slice A0 l.length c0, .slice A xs.length c] (by rfl) rfl rfl (by simp only [List.map_toArray, List.map_cons, List.map_nil]; rfl) ?_
  with_reducible refine (impl_at.calls k1 A0 c0 l A c xs _ _ (Kd.C_below HL0.out HC.out.hb) hc0 (Kd.R_reads' HR.out).2.2 (Kd.R_reads' HR.out).2.1 h1.out).mono ?_
  rintro e_ w2 ⟨v8, rfl, hR8, hb2⟩
  replace HB := Aside0.mk (below_step HB.out hb2)
  obtain ⟨A8, c8, e8⟩ := Kd.R_slice hR8
  subst e8
  have HR8 := Aside0.mk hR8
  clear hR8 hb2
  refine ⟨_, rfl, ?_⟩
  refine hK.out _ _ ⟨cell_of_one (blk_below HC.out.hl HB.out), cell_of_one (blk_below HC.out.hp HB.out)⟩ (fun hHeld => ?_)
  clear hK K
  refine norm_ (a' := ?_) ?_ ?_
  rotate_left
  · show Act.put _ (some 8) _ = _
    simp only [Act.put, List.setIfInBounds_toArray, List.set_cons_zero, List.set_cons_succ, i64_w, i32_w]
    rfl
  refine one_ (i := 3) (N := some 9) #[true, true, true, true, true, false] rfl rfl (by kernel_rfl) (by decide) (fun K hK => ?_)
  refine goes_ Try.func94 (by kernel_rfl) rfl #[.slice A8 (atl xs).length c8] (by rfl) rfl rfl (by simp only [List.map_toArray, List.map_cons, List.map_nil]; rfl) ?_
  with_reducible refine (impl_shape.calls k2 A8 c8 (atl xs) _ _ (Kd.R_reads' HR8.out).2.2 (Kd.R_reads' HR8.out).2.1 h2.out).mono ?_
  rintro e_ w3 ⟨v9, rfl, hR9, hb3⟩
  replace HB := Aside0.mk (below_step HB.out hb3)
  obtain ⟨A9, c9, e9⟩ := Kd.R_slice hR9
  subst e9
  have HR9 := Aside0.mk hR9
  clear hR9 hb3
  refine ⟨_, rfl, ?_⟩
  refine hK.out _ _ ⟨cell_of_one (blk_below HC.out.hl HB.out), cell_of_one (blk_below HC.out.hp HB.out)⟩ (fun hHeld => ?_)
  clear hK K
  refine norm_ (a' := ?_) ?_ ?_
  rotate_left
  · show Act.put _ (some 9) _ = _
    simp only [Act.put, List.setIfInBounds_toArray, List.set_cons_zero, List.set_cons_succ, i64_w, i32_w]
    rfl
  refine one_ (i := 5) (N := some 11) #[true, true, true, true, true, true] rfl rfl (by kernel_rfl) (by decide) (fun K hK => ?_)
  refine goes_ Try.func78 (by kernel_rfl) rfl #[.slice A9 (shp xs).length c9, .slice A1 p.length c1] (by rfl) rfl rfl (by simp only [List.map_toArray, List.map_cons, List.map_nil]; rfl) ?_
  with_reducible refine (slices_Equal_int_int.calls k3 A9 c9 (shp xs) A1 c1 p _ _ (Kd.R_reads' HR9.out).2.2 (Kd.R_reads' HR9.out).2.1 (Kd.C_below HP0.out (HC.out.hb.trans (Go.Proofs.Ytjaplmgbhmgpiaa.Base.below_below HB.out HC.out.hb.size))) hc1 h3.out).mono ?_
  rintro e_ w4 ⟨rfl, q4, rfl⟩
  refine ⟨_, rfl, ?_⟩
  refine hK.out _ _ ⟨by first | exact hHeld.1 | exact cell_of_one (blk_drewN (blk_below HC.out.hl HB.out) _), by first | exact hHeld.2 | exact cell_of_one (blk_drewN (blk_below HC.out.hp HB.out) _)⟩ (fun hHeld => ?_)
  clear hK K
  refine norm_ (a' := ?_) ?_ ?_
  rotate_left
  · show Act.put _ (some 11) _ = _
    simp only [Act.put, List.setIfInBounds_toArray, List.set_cons_zero, List.set_cons_succ, i64_w, i32_w]
    rfl
  refine done_ (by kernel_rfl) ?_
  have HB5 := Aside0.mk (pw_below_drewN HB.out q4)
  have HC5 := Aside0.mk (HC.out.below HB5.out)
  clear hHeld
  generalize w3.drewN q4 = w5 at HB5 HC5 ⊢
  have cm := cell_of_one HC5.out.hm
  have fm := free_of_one HC5.out.hm
  have HF5 := Aside0.mk (HF.out.trans (Fr.of_below HB5.out))
  by_cases hsp : shp xs = p
  · have hd : decide (shp xs = p) = true := decide_eq_true hsp
    rw [hd]
    have HSP := Aside0.mk hsp
    clear hd hsp
    go_wp2
    go_ret
    have e := HS2.out
    rw [if_pos HSP.out] at e
    subst e
    exact ⟨rfl, HC5.out.put _, HF5.out.trans (Fr.set (S := fun k => k = gm) rfl _ _)⟩
  · have hd : decide (shp xs = p) = false := decide_eq_false hsp
    rw [hd]
    have HSP := Aside0.mk hsp
    clear hd hsp
    go_wp2
    go_ret
    have e := HS2.out
    rw [if_neg HSP.out] at e
    subst e
    exact ⟨rfl, HC5.out, HF5.out⟩
def cpF (l p : List Int) (s : Int) (xs : List Int) : Int × Bool := (if Go.Proofs.Ytjaplmgbhmgpiaa.Base.shapeL (atG l xs) = p then wrap64 (s + 1) else s, false)
def cpG (l p : List Int) : Int := (addG (cpF l p) l.length p.length l.length [] 0).1
set_option maxHeartbeats 8000000 in
set_option maxRecDepth 100000 in
theorem countPlaces_calls (A0 : Option Addr) (c0 : Nat) (l0 : List Int) (A1 : Option Addr) (c1 : Nat) (l1 : List Int) (w : World) (hr0 : Kd.C (Kd.int .i64) w A0 l0.length l0) (hc0 : l0.length ≤ c0) (hr1 : Kd.C (Kd.int .i64) w A1 l1.length l1) (hc1 : l1.length ≤ c1) (hl : l0.length ≤ 7) (hp : l1.length ≤ 7) :
    Calls Try.prog 83 #[.slice A0 l0.length c0, .slice A1 l1.length c1] w fun e w' => e = .returned (.int .i64 (cpG l0 l1)) ∧ Below w.heap.size w w' := by
  have hmf : ∀ (fn : Fn) (first cap : Array Value) (w : World), (Instr.makeFunc fn first cap).run Try.prog w = .ok (.func fn first cap) w := fun _ _ _ _ => rfl
  have z1 : ∀ (W : World) (o : Obj), (W.alloc o).heap.size = W.heap.size + 1 := fun W o => by simp
  have hc : Cp 22 3 w (((w.alloc (Obj.cells #[Value.slice A0 l0.length c0] 22)).alloc (Obj.cells #[Value.slice A1 l1.length c1] 22)).alloc (Obj.cells #[Value.int IntKind.i64 0]  3)) w.heap.size (w.heap.size + 1) (w.heap.size + 1 + 1) (.slice A0 l0.length c0) (.slice A1 l1.length c1) 0 := by
    refine ⟨?_, ?_, ?_, ?_, by omega, by decide⟩
    · exact blk_alloc (blk_alloc (blk_new w _) _) _
    · exact blk_alloc (by have := blk_new (w.alloc (Obj.cells #[Value.slice A0 l0.length c0] 22)) (Obj.cells #[Value.slice A1 l1.length c1] 22); rwa [z1] at this) _
    · have := blk_new ((w.alloc (Obj.cells #[Value.slice A0 l0.length c0] 22)).alloc (Obj.cells #[Value.slice A1 l1.length c1] 22)) (Obj.cells #[Value.int IntKind.i64 0]  3)
      rwa [z1, z1] at this
    · exact below_alloc (below_alloc (below_alloc (Below.refl _ _) _) _) _
  have hz : (((w.alloc (Obj.cells #[Value.slice A0 l0.length c0] 22)).alloc (Obj.cells #[Value.slice A1 l1.length c1] 22)).alloc (Obj.cells #[Value.int IntKind.i64 0]  3)).heap.size = w.heap.size + 1 + 1 + 1 := by rw [z1, z1, z1]
  have H := choose_calls_cp (cpF l0 l1) (fun s W => Cp 22 3 w W w.heap.size (w.heap.size + 1) (w.heap.size + 1 + 1) (.slice A0 l0.length c0) (.slice A1 l1.length c1) s) (fun k => k = w.heap.size + 1 + 1) (.pointer (some ⟨w.heap.size, 0, none⟩)) (.pointer (some ⟨w.heap.size + 1, 0, none⟩)) (.pointer (some ⟨w.heap.size + 1 + 1, 0, none⟩)) l0.length l1.length 0 _ (fun s W W' h hb => h.below hb)
    (fun s W A c xs hI hsz hR hx hq => by
      refine (countPlaces_cb l0 l1 A0 A1 c0 c1 w w.heap.size (w.heap.size + 1) (w.heap.size + 1 + 1) (atG l0) (fun xs => Go.Proofs.Ytjaplmgbhmgpiaa.Base.shapeL (atG l0 xs)) l1.length hr0 hc0 hr1 hc1 (cp_res l0 l1 hp) s W _ A c xs hI hR hx hq).mono ?_
      rintro e w' ⟨rfl, h1, h2⟩
      exact ⟨rfl, h1, h2⟩) (fun k hk => by rw [hz, hk]; omega) (by omega) hc
  have HH := Aside0.mk H
  have HC := Aside0.mk hc
  clear H hc hz z1 hr0 hr1
  go_enter Try.func83, Try.ntmps83
  go_wp2_with (go_at_call 92; refine HH.out.mono ?_; rintro e_ w2 ⟨rfl, h1, h2⟩; have c12 := cell_of_one h1.hm; have HX := Aside0.mk h1; clear h1 h2)
  go_ret
  exact ⟨rfl, HX.out.hb⟩
def impl_countPlaces.f (l0 : List Int) (l1 : List Int) : Option Int := if l0.length ≤ 7 ∧ l1.length ≤ 7 then some (cpG l0 l1) else none
theorem impl_countPlaces.calls (A0 : Option Addr) (c0 : Nat) (l0 : List Int) (A1 : Option Addr) (c1 : Nat) (l1 : List Int) (r : Int) (w : World) (hr0 : Kd.C (Kd.int .i64) w A0 l0.length l0) (hc0 : l0.length ≤ c0) (hr1 : Kd.C (Kd.int .i64) w A1 l1.length l1) (hc1 : l1.length ≤ c1) (h : impl_countPlaces.f l0 l1 = some r) :
    Calls Try.prog 83 #[.slice A0 l0.length c0, .slice A1 l1.length c1] w fun e w' => e = .returned (.int .i64 r) ∧ Below w.heap.size w w' := by
  unfold impl_countPlaces.f at h
  by_cases hl : l0.length ≤ 7 ∧ l1.length ≤ 7
  · rw [if_pos hl] at h
    obtain rfl := Option.some.inj h
    exact countPlaces_calls A0 c0 l0 A1 c1 l1 w hr0 hc0 hr1 hc1 hl.1 hl.2
  · rw [if_neg hl] at h; cases h
end

/-! ### impl_MostPlaces: function 37 -/
section
open Go.Proofs.Ytjaplmgbhmgpiaa.Base
def impl_MostPlaces.go (l1 : List Int) : List (List Int) → List Int → Int → Option (List Int × Int × Bool)
  | [], b, m => some (b, m, true)
  | c :: s, b, m => (impl_countPlaces.f c l1).bind fun q => if q > m then impl_MostPlaces.go l1 s c q else impl_MostPlaces.go l1 s b m
def impl_MostPlaces.f (k : Nat) (a0 : Int) (l1 : List Int) : Option (List Int × Int × Bool) := (impl_isSize.f a0).bind fun t => (if t = true then ((impl_isOrder.f k l1).bind fun t2 => (if t2 = true then ((impl_allOrders.f k a0).bind fun rows => impl_MostPlaces.go l1 rows [] (-1)) else (some (([] : List Int), 0, false)))) else (some (([] : List Int), 0, false)))
theorem impl_MostPlaces.mono : ∀ a0 a1 k, LeO (impl_MostPlaces.f k a0 a1) (impl_MostPlaces.f (k + 1) a0 a1) := by
  intro a0 a1 k
  unfold impl_MostPlaces.f
  exact LeO.bind (LeO.refl _) (fun _ => LeO.ite (LeO.bind (impl_isOrder.mono _ _) (fun _ => LeO.ite (LeO.bind (impl_allOrders.mono _ _) (fun _ => LeO.refl _)) (LeO.refl _))) (LeO.refl _))
/-- Element i of rows of one's own, as a row of one's own. -/
theorem S_row {e q base n cap : Nat} {ok : Nat → Prop} {W : World} {ad : Addr} {xs : List (List Int)} (h : Kd.S (Kd.slice e (Kd.int .i64)) q W base ok (.slice (some ad) n cap) xs) (i : Nat) (h1 : i < n) :
    ∃ A c, Kd.R (Kd.int .i64) e W base (fun _ => True) (.slice A (xs.getD i []).length c) (xs.getD i []) ∧ W.cell? (ad.add i) = some (.slice A (xs.getD i []).length c) := by
  obtain ⟨c, hcl, hM, hcc⟩ := Kd.S_get h [] (i : Int) (by omega) (by omega)
  obtain ⟨v, rfl, hR⟩ := hM
  rw [show ((i : Int)).toNat = i by omega] at hR hcc
  obtain ⟨A, c', rfl⟩ := Kd.R_slice hR
  refine ⟨A, c', Kd.R_mono hR (fun _ _ => trivial), ?_⟩
  have := hcc 0 _ rfl
  simpa [Kd.slice] using this
set_option maxHeartbeats 8000000 in
set_option maxRecDepth 100000 in
theorem impl_MostPlaces.calls (k : Nat) (a0 : Int) (A1 : Option Addr) (c1 : Nat) (l1 : List Int) (r1 : List Int) (r2 : Int) (r3 : Bool) (w : World) (hr1 : Kd.C (Kd.int .i64) w A1 l1.length l1) (hc1 : l1.length ≤ c1) (h : impl_MostPlaces.f k a0 l1 = some (r1, r2, r3)) :
    Calls Try.prog 37 #[.int .i64 a0, .slice A1 l1.length c1] w fun e w' => ∃ v0_ : Value, e = .returned (.tuple #[v0_, .int .i64 r2, .bool r3]) ∧ Kd.R (Kd.int .i64) 3 w' w.heap.size (fun _ => True) v0_ r1 ∧ Below w.heap.size w w' := by
  unfold impl_MostPlaces.f at h
  obtain ⟨t, ht, h⟩ := Option.bind_eq_some_iff.1 h
  have HT := Aside0.mk ht
  have HR1 := Aside0.mk hr1
  have HC1 := Aside0.mk hc1
  clear ht hr1 hc1
  cases t with
  | false =>
    rw [if_neg (by decide)] at h
    simp only [Option.some.injEq, Prod.mk.injEq] at h
    obtain ⟨rfl, rfl, rfl⟩ := h
    go_enter Try.func37, Try.ntmps37
    go_wp2_with (go_at_call 82; refine (impl_isSize.calls a0 false _ HT.out).mono ?_; rintro e_ w2 ⟨rfl, ⟨nd, rfl⟩⟩)
    go_ret3
    exact ⟨_, rfl, Kd.R_nil _ _ _ _ _, pw_below_drewN (Below.refl _ _) _⟩
  | true =>
    rw [if_pos rfl] at h
    obtain ⟨t2, ht2, h⟩ := Option.bind_eq_some_iff.1 h
    have HT2 := Aside0.mk ht2
    clear ht2
    cases t2 with
    | false =>
      rw [if_neg (by decide)] at h
      simp only [Option.some.injEq, Prod.mk.injEq] at h
      obtain ⟨rfl, rfl, rfl⟩ := h
      go_enter Try.func37, Try.ntmps37
      go_wp2_with (first | (go_at_call 82; refine (impl_isSize.calls a0 true _ HT.out).mono ?_; rintro e_ w2 ⟨rfl, ⟨nd, rfl⟩⟩) | (go_at_call 52; refine (impl_isOrder.calls k A1 c1 l1 false _ (Kd.C_drewN HR1.out _) HC1.out HT2.out).mono ?_; rintro e_ w3 ⟨rfl, ⟨nd2, rfl⟩⟩))
      go_ret3
      exact ⟨_, rfl, Kd.R_nil _ _ _ _ _, pw_below_drewN (Below.refl _ _) _⟩
    | true =>
      rw [if_pos rfl] at h
      obtain ⟨rows, ht3, h⟩ := Option.bind_eq_some_iff.1 h
      have HT3 := Aside0.mk ht3
      have HG := Aside0.mk h
      clear ht3 h
      go_enter Try.func37, Try.ntmps37
      go_wp2_with (first | (go_at_call 82; refine (impl_isSize.calls a0 true _ HT.out).mono ?_; rintro e_ w2 ⟨rfl, ⟨nd, rfl⟩⟩) | (go_at_call 52; refine (impl_isOrder.calls k A1 c1 l1 true _ (Kd.C_drewN HR1.out _) HC1.out HT2.out).mono ?_; rintro e_ w3 ⟨rfl, ⟨nd2, rfl⟩⟩) | (go_at_call 76; refine (impl_allOrders.calls k a0 rows _ HT3.out).mono ?_; rintro e_ w4 ⟨v21, rfl, hs4, hb4⟩; have HB := Aside0.mk (below_step (pw_below_drewN (Below.refl w.heap.size w) (nd + nd2)) hb4); have hs5 := Kd.S_lower hs4 (show w.heap.size ≤ (w.drewN (nd + nd2)).heap.size from Nat.le_refl _); obtain ⟨A21, c21, e21⟩ := Kd.S_slice hs5; subst e21; have HS := Aside0.mk hs5; clear hs4 hb4 hs5))
      have hrl : rows.length ≤ 9223372036854775807 := (Kd.S_reads' HS.out).2.2.2.1
      go_loopg [23, 7, 8] rows.length (fun kq v23 v7 v8 wr => ∃ (pre suf : List (List Int)) (b : List Int) (m : Int), v23 = .int .i64 (pre.length : Int) ∧ v8 = .int .i64 m ∧ kq = suf.length ∧ Aside0 (rows = pre ++ suf) ∧ Aside0 (impl_MostPlaces.go l1 suf b m = some (r1, r2, r3)) ∧ Aside0 (Kd.R (Kd.int .i64) 3 wr w.heap.size (fun _ => True) v7 b) ∧ Aside0 (Below w4.heap.size w4 wr))
      case atStart => exact ⟨[], rows, [], -1, rfl, rfl, rfl, ⟨rfl⟩, HG, ⟨Kd.R_nil _ _ _ _ _⟩, ⟨Below.refl _ _⟩⟩
      case round =>
        clear HG
        obtain ⟨pre, suf, b, m, rfl, rfl, rfl, HL, HG, HRb, HBB⟩ := hrel
        cases suf with
        | nil =>
          have hl : rows.length = pre.length := by rw [HL.out]; simp
          have hg : ¬ ((pre.length : Int) < (rows.length : Int)) := by omega
          have hgb : decide ((pre.length : Int) < (rows.length : Int)) = false := decide_eq_false hg
          have e := HG.out
          simp only [impl_MostPlaces.go, Option.some.injEq, Prod.mk.injEq] at e
          obtain ⟨rfl, rfl, rfl⟩ := e
          clear hl hrl
          go_wp2
          go_ret3
          exact ⟨_, rfl, HRb.out, below_then HB.out HB.out.size HBB.out⟩
        | cons x t =>
          have hl : rows.length = pre.length + (t.length + 1) := by rw [HL.out]; simp
          have hg : (pre.length : Int) < (rows.length : Int) := by omega
          have hgb : decide ((pre.length : Int) < (rows.length : Int)) = true := decide_eq_true hg
          have hrd : rows.getD pre.length [] = x := by rw [HL.out]; simp
          have e := HG.out
          simp only [impl_MostPlaces.go] at e
          obtain ⟨q, hq, e⟩ := Option.bind_eq_some_iff.1 e
          have HQ := Aside0.mk hq
          have hb1 : (pre.length : Int) ≤ 9223372036854775806 := by omega
          cases A21 with
          | none => exact absurd (Kd.S_reads' HS.out).2.2.2.2 (fun h => by obtain ⟨_, h, _⟩ := h (by omega); cases h)
          | some ad =>
            obtain ⟨A, c, hR, hx⟩ := S_row HS.out pre.length (by omega)
            rw [hrd] at hR hx
            replace hx := pw_cell_below HBB.out hx
            have HRx := Aside0.mk (Kd.R_below hR HBB.out)
            have HCL := Aside0.mk (Kd.C_below HR1.out (below_then HB.out HB.out.size HBB.out))
            clear hq hl hrd hR hrl
            by_cases hqm : q > m
            · rw [if_pos hqm] at e
              have hqb : decide (q > m) = true := decide_eq_true hqm
              have HE := Aside0.mk e
              clear e
              go_wp2_with (go_at_call 83; refine (impl_countPlaces.calls A c x A1 c1 l1 q _ (Kd.R_reads' HRx.out).2.2 (Kd.R_reads' HRx.out).2.1 HCL.out HC1.out HQ.out).mono ?_; rintro e_ w6 ⟨rfl, hb6⟩; have HX := Aside0.mk hb6; clear hb6)
              go_roundg t.length
              case measure => simp
              case rel => exact ⟨pre ++ [x], t, x, q, by simp [wrap64], rfl, rfl, ⟨by rw [HL.out]; simp⟩, HE, ⟨Kd.R_below HRx.out HX.out⟩, ⟨below_step HBB.out HX.out⟩⟩
            · rw [if_neg hqm] at e
              have hqb : decide (q > m) = false := decide_eq_false hqm
              have HE := Aside0.mk e
              clear e
              go_wp2_with (go_at_call 83; refine (impl_countPlaces.calls A c x A1 c1 l1 q _ (Kd.R_reads' HRx.out).2.2 (Kd.R_reads' HRx.out).2.1 HCL.out HC1.out HQ.out).mono ?_; rintro e_ w6 ⟨rfl, hb6⟩; have HX := Aside0.mk hb6; clear hb6)
              go_roundg t.length
              case measure => simp
              case rel => exact ⟨pre ++ [x], t, b, m, by simp [wrap64], rfl, rfl, ⟨by rw [HL.out]; simp⟩, HE, ⟨Kd.R_below HRb.out HX.out⟩, ⟨below_step HBB.out HX.out⟩⟩
end

end Go.Proofs.Ytjaplmgbhmgpiaa.MFnExactMostPlaces
