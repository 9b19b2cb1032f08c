/- Functions that FnContained comes to, a walk for each: by wip/tools/mk.py and post.py. No condition. -/
import Derived.Test.YtlkddcabjcejdaaMFnContainedx0
import Derived.Test.YtlkddcabjcejdaaMFnContainedx1
import Derived.Test.YtlkddcabjcejdaaMFnContainedx4
import Derived.Test.YtlkddcabjcejdaaMFnContainedx6
import Derived.Test.YtlkddcabjcejdaaMFnContainedx11
import Derived.Test.YtlkddcabjcejdaaMFnContainedx13
namespace Go.Proofs.Ytlkddcabjcejdaa.MFnContained
open Go.RowKit Go.Proofs.YtlkddcabjcejdaaW.PrintWords Go.Proofs.YtlkddcabjcejdaaW.PrintLast Go.Proofs.YtlkddcabjcejdaaW.PrintMore
attribute [local go_sem] max2_int min2_int max_two min_two max_three min_three max_four min_four
set_option linter.unusedVariables false
set_option linter.unusedSimpArgs false

/-! ### impl_FewestDrops: function 134 -/
section
open Go.Proofs.Ytlkddcabjcejdaa.Base
set_option maxHeartbeats 8000000 in
set_option maxRecDepth 100000 in
theorem choose_add_fw {σ : Type} (f : σ → List Int → σ × Bool) (I : σ → World → Prop) (S : Nat → Prop) (c1_ c2_ c3_ c4_ : Value) (n many bS gm gw gn ga : Nat)
 (hI : ∀ s W W', I s W → Below W.heap.size W W' → I s W')
 (hcb : ∀ s W A c xs, I s W → bS ≤ W.heap.size → Kd.R (Kd.int .i64) 3 W bS (fun k => ¬ S k) (.slice A xs.length c) xs → xs.length = many → (∀ x ∈ xs, 0 ≤ x ∧ x < (n : Int)) → Calls Try.prog 266 #[.slice A xs.length c, c1_, c2_, c3_, c4_] W fun e w' => e = .returned (.bool (f s xs).2) ∧ I (f s xs).1 w' ∧ Fr S W w')
 (hSlt : ∀ k, S k → k < bS) (hs1 : ¬ S gm) (hs2 : ¬ S gw) (hs3 : ¬ S gn) (hs4 : ¬ S ga) (hn : n < 1073741824) :
 ∀ (r : Nat) (A : Option Addr) (c : Nat) (xs : List Int) (s : σ) (W : World), xs.length + r ≤ n → (∀ x ∈ xs, 0 ≤ x ∧ x < (n : Int)) → I s W → bS ≤ W.heap.size →
  Ch 3 27 39 W gm gw gn ga (.int .i64 (many : Int)) (.func (.func 266) #[] #[c1_, c2_, c3_, c4_]) (.int .i64 (n : Int)) (.func (.func 247) #[] #[.pointer (some ⟨gm, 0, none⟩), .pointer (some ⟨gw, 0, none⟩), .pointer (some ⟨gn, 0, none⟩), .pointer (some ⟨ga, 0, none⟩)]) →
  Kd.R (Kd.int .i64) 3 W bS (fun k => ¬ S k) (.slice A xs.length c) xs →
  Calls Try.prog 247 #[.slice A xs.length c, .int .i64 ((n - r : Nat) : Int), .pointer (some ⟨gm, 0, none⟩), .pointer (some ⟨gw, 0, none⟩), .pointer (some ⟨gn, 0, none⟩), .pointer (some ⟨ga, 0, none⟩)] W fun e w' => e = .returned (.bool (addG f n many r xs s).2) ∧ I (addG f n many r xs s).1 w' ∧ Fr S W w' := by
 have HII := zk hI
 have HCB := zk hcb
 clear hI hcb
 intro r
 induction r using Nat.strongRecOn with
 | ind r IH =>
  have HIH := zk IH
  clear IH
  intro A c xs s W hxr hxq hIs hbs hch hr
  have HCh0 := zk hch
  have HR0 := zk hr
  have HXQ := zk hxq
  clear hxq
  have HI0 := zk hIs
  clear hch hr hIs
  have cM := cell_of_one HCh0.out.hm
  have cW := cell_of_one HCh0.out.hw
  by_cases hm : xs.length = many
  · have hmb : ((xs.length : Int) == (many : Int)) = true := by simp [hm]
    have ea : addG f n many r xs s = f s xs := by unfold addG; rw [if_pos hm]
    rw [ea]
    have HM := zk hm
    clear hm ea
    go_enter Try.func247, Try.ntmps247
    go_wp2_with (go_at_call 266; refine (HCB.out s W A c xs HI0.out hbs HR0.out HM.out HXQ.out).mono ?_; rintro e_ w2 ⟨rfl, h1, h2⟩; have HX := zk (And.intro h1 h2); clear h1 h2)
    go_ret
    exact ⟨rfl, HX.out⟩
  · have hmb : ((xs.length : Int) == (many : Int)) = false := by simp; omega
    have ea : addG f n many r xs s = loopG f n many r xs s := by unfold addG; rw [if_neg hm]
    rw [ea]
    clear cW
    obtain ⟨R, hR⟩ : ∃ R, loopG f n many r xs s = R := ⟨_, rfl⟩
    rw [hR]
    have HP := zk hR
    clear hR ea
    go_enter Try.func247, Try.ntmps247
    go_wp2
    go_loopg [9] r (fun kq v9 wr => ∃ (r1 : Nat) (s1 : σ), v9 = .int .i64 ((n - r1 : Nat) : Int) ∧ kq = r1 ∧ r1 ≤ r ∧ Aside0 (loopG f n many r1 xs s1 = R) ∧ Aside0 (I s1 wr) ∧ Aside0 (Fr S W wr))
    case atStart => exact ⟨r, s, rfl, rfl, Nat.le_refl _, HP, HI0, ⟨Fr.refl _ _⟩⟩
    case round =>
     clear HP HI0 cM
     obtain ⟨r1, s1, rfl, hkq, hrr, HP, HI, HF⟩ := hrel
     obtain rfl : r1 = gk := hkq.symm
     have HCh := zk (HCh0.out.fr HF.out hs1 hs2 hs3 hs4)
     have HR := zk (R_fr HR0.out HF.out)
     have cN := cell_of_one HCh.out.hn
     cases r1 with
     | zero =>
      have e := HP.out
      simp only [loopG] at e
      subst e
      go_wp2
      go_ret
      exact ⟨rfl, HI.out, HF.out⟩
     | succ r1 =>
      have hlt : ((n - (r1 + 1) : Nat) : Int) < (n : Int) := by omega
      have hltb : decide (((n - (r1 + 1) : Nat) : Int) < (n : Int)) = true := decide_eq_true hlt
      have hw64 : wrap64 (((n - (r1 + 1) : Nat) : Int) + 1) = ((n - r1 : Nat) : Int) := by unfold wrap64; omega
      have HW64 := zk hw64
      clear hw64
      go_upto_region 6 with (fail)
      have hw64 := HW64.out
      refine start_ (n := 9) (S := fun w' => w'.cell? ⟨ga, 0, none⟩ = some (Value.func (Fn.func 247) #[] #[.pointer (some ⟨gm, 0, none⟩), .pointer (some ⟨gw, 0, none⟩), .pointer (some ⟨gn, 0, none⟩), .pointer (some ⟨ga, 0, none⟩)])) (ds := []) #[false, false, false, false, false, false, false, false, false] (by kernel_rfl) rfl rfl (cell_of_one HCh.out.ha) (fun hHeld => ?_)
      have HR := zk (zt HR.out)
      have HCh := zk (HCh.out.fr (S := S) (Fr.of_below (below_drew (Below.refl _ _))) hs1 hs2 hs3 hs4)
      replace HF := zk (HF.out.trans (Fr.of_below (below_drew (Below.refl _ _))))
      replace HI := zk (HII.out _ _ _ HI.out (below_drew (Below.refl _ _)))
      generalize World.drew _ = w1 at HF HI HR HCh hHeld ⊢
      have HB := zk (Below.refl w1.heap.size w1)
      refine zP (i := 1) (N := some 24) #[false, true, false, false, false, false, false, false, false] ?_
      refine zP (i := 3) (N := some 26) #[false, true, false, true, false, false, false, false, false] ?_
      refine zP (i := 6) (N := some 29) #[false, true, false, true, false, false, true, false, false] ?_
      refine zP (i := 7) (N := some 30) #[false, true, false, true, false, false, true, true, false] ?_
      refine take_ (i := 0) (N := some 23) (v := ?_) (a' := ?_) #[true, true, false, true, false, false, true, true, false] rfl rfl (by kernel_rfl) (fun _ _ _ h => h) (Or.inl ⟨by rfl, ?_⟩) hHeld ?_ ?_
      rotate_left
      · intro w' s0
        go_simp
        with_reducible rfl
      rotate_left
      · exact zQ
      refine join_ (σ := Value × Value) 2 #[true, true, true, true, true, false, true, true, false] (fun s_ => [(25, s_.1), (27, s_.2)]) (fun s_ w' => (w'.cell? ⟨ga, 0, none⟩ = some (Value.func (Fn.func 247) #[] #[.pointer (some ⟨gm, 0, none⟩), .pointer (some ⟨gw, 0, none⟩), .pointer (some ⟨gn, 0, none⟩), .pointer (some ⟨ga, 0, none⟩)])) ∧ Aside0 (Below w1.heap.size w1 w') ∧ Aside0 (Kd.R (Kd.int .i64) 3 w' w1.heap.size (fun _ => True) s_.1 xs) ∧ Aside0 (Kd.R (Kd.int .i64) 3 w' w1.heap.size (fun _ => True) s_.2 [((n - (r1 + 1) : Nat) : Int)])) ?_ ?_
      rotate_left
      · intro hCont
        refine two_ (i := 2) (j := 4) (Ni := some 25) (Nj := some 27) #[true, true, true, true, false, false, true, true, false] #[true, true, false, true, true, false, true, true, false] rfl rfl rfl rfl (by kernel_rfl) (by decide) (by decide) (fun K hK => ?_) (fun K hK => ?_)
        · skip
          refine goes_ Try.func248 (by kernel_rfl) rfl #[.slice A xs.length c] (by rfl) rfl rfl (by simp only [List.map_toArray, List.map_cons, List.map_nil]; rfl) ?_
          with_reducible refine (slices_Clone_int_int.calls A c xs xs _ (Kd.R_reads' (Kd.R_below HR.out HB.out)).2.2 (Kd.R_reads' HR.out).2.1 (by unfold slices_Clone_int_int.f; rw [if_pos (by omega)])).mono ?_
          rintro e_ w3 ⟨v25, rfl, hR25, hb3⟩
          have hz2 := HB.out.size
          have HR25 := zk (Kd.R_lower hR25 hz2)
          replace HB := zk (below_step HB.out hb3)
          clear hz2 hR25 hb3
          refine ⟨_, rfl, ?_⟩
          refine hK.out _ _ (cell_of_one (HCh.out.fr (Fr.of_below (S := S) HB.out) hs1 hs2 hs3 hs4).ha) (fun hHeld => ?_)
          clear hK K
          refine zM 25 ?_
          refine one_ (i := 4) (N := some 27) #[true, true, true, true, true, false, true, true, false] rfl rfl (by kernel_rfl) (by decide) (fun K hK => ?_)
          have hz4 := HB.out.size
          refine Kd.R_lit_step (Kd.int .i64) _ 3 ?hg (N := 27) ?hd (xs := ([((n - (r1 + 1) : Nat) : Int)] : List Int)) (inner := [.int .i64 ((n - (r1 + 1) : Nat) : Int)]) (ok := fun _ => True) (okp := fun _ => True) ?hr ?hp (fun _ hk => hk) trivial (Below.refl _ _) (Nat.le_refl _) (by simp) ?_; (case hd => rfl); (case hg => rfl); (case hr => first | (go_simp; done) | (go_simp; rfl)); (case hp => exact (Reps.one (show Kd.M (Kd.int .i64) _ _ _ _ [.int .i64 _] from rfl) (Reps.none _ _)))
          intro v27 w4 hL4 hb4 hg4 hn4
          have HL27 := zk (Kd.R_lower hL4 hz4)
          replace HR25 := zk (Kd.R_below HR25.out hb4)
          replace HB := zk (below_step HB.out hb4)
          clear hz4 hL4 hb4 hg4 hn4
          refine hK.out _ _ (cell_of_one (HCh.out.fr (Fr.of_below (S := S) HB.out) hs1 hs2 hs3 hs4).ha) (fun hHeld => ?_)
          clear hK K
          refine zM 27 ?_
          exact norm_ (by simp only [putAll, Act.put, List.setIfInBounds_toArray, List.set_cons_zero, List.set_cons_succ]) (hCont (v25, v27) _ ⟨hHeld, HB, HR25, HL27⟩)
        · skip
          have hz4 := HB.out.size
          refine Kd.R_lit_step (Kd.int .i64) _ 3 ?hg (N := 27) ?hd (xs := ([((n - (r1 + 1) : Nat) : Int)] : List Int)) (inner := [.int .i64 ((n - (r1 + 1) : Nat) : Int)]) (ok := fun _ => True) (okp := fun _ => True) ?hr ?hp (fun _ hk => hk) trivial (Below.refl _ _) (Nat.le_refl _) (by simp) ?_; (case hd => rfl); (case hg => rfl); (case hr => first | (go_simp; done) | (go_simp; rfl)); (case hp => exact (Reps.one (show Kd.M (Kd.int .i64) _ _ _ _ [.int .i64 _] from rfl) (Reps.none _ _)))
          intro v27 w4 hL4 hb4 hg4 hn4
          have HL27 := zk (Kd.R_lower hL4 hz4)
          replace HB := zk (below_step HB.out hb4)
          clear hz4 hL4 hb4 hg4 hn4
          refine hK.out _ _ (cell_of_one (HCh.out.fr (Fr.of_below (S := S) HB.out) hs1 hs2 hs3 hs4).ha) (fun hHeld => ?_)
          clear hK K
          refine zM 27 ?_
          refine one_ (i := 2) (N := some 25) #[true, true, true, true, true, false, true, true, false] rfl rfl (by kernel_rfl) (by decide) (fun K hK => ?_)
          refine goes_ Try.func248 (by kernel_rfl) rfl #[.slice A xs.length c] (by rfl) rfl rfl (by simp only [List.map_toArray, List.map_cons, List.map_nil]; rfl) ?_
          with_reducible refine (slices_Clone_int_int.calls A c xs xs _ (Kd.R_reads' (Kd.R_below HR.out HB.out)).2.2 (Kd.R_reads' HR.out).2.1 (by unfold slices_Clone_int_int.f; rw [if_pos (by omega)])).mono ?_
          rintro e_ w3 ⟨v25, rfl, hR25, hb3⟩
          have hz2 := HB.out.size
          have HR25 := zk (Kd.R_lower hR25 hz2)
          replace HL27 := zk (Kd.R_below HL27.out hb3)
          replace HB := zk (below_step HB.out hb3)
          clear hz2 hR25 hb3
          refine ⟨_, rfl, ?_⟩
          refine hK.out _ _ (cell_of_one (HCh.out.fr (Fr.of_below (S := S) HB.out) hs1 hs2 hs3 hs4).ha) (fun hHeld => ?_)
          clear hK K
          refine zM 25 ?_
          exact norm_ (by simp only [putAll, Act.put, List.setIfInBounds_toArray, List.set_cons_zero, List.set_cons_succ]) (hCont (v25, v27) _ ⟨hHeld, HB, HR25, HL27⟩)
      clear HB hHeld
      rintro ⟨v25, v27⟩ w6 ⟨hHeld, HB, HR25, HL27⟩
      obtain ⟨A25, c25, e25⟩ := Kd.R_slice HR25.out
      obtain ⟨A27, c27, e27⟩ := Kd.R_slice HL27.out
      simp only at e25 e27
      subst e25
      subst e27
      refine norm_ (a' := ?_) ?_ ?_
      rotate_left
      · simp only [putAll, Act.put, List.setIfInBounds_toArray, List.set_cons_zero, List.set_cons_succ]
        rfl
      refine one_ (i := 5) (N := some 28) #[true, true, true, true, true, true, true, true, false] rfl rfl (by kernel_rfl) (by decide) (fun K hK => ?_)
      refine Kd.R_append_rows_step (Kd.int .i64) (w0 := w1) w1.heap.size (by rfl) (.tmp 25) (.tmp 27) 22 3 (.int .i64 0) 8 rfl Try.underlying22 info3 rfl (by decide) (by omega) (.slice A25 xs.length c25) xs [((n - (r1 + 1) : Nat) : Int)] _ _ _ (fun _ => True) (fun _ => False) rfl rfl HR25.out (Kd.R_reads' HL27.out).2.2 (fun _ _ h => h) (fun _ h => h.elim) (fun _ _ => trivial) HB.out HB.out.size (by simp only [List.length_cons, List.length_nil]; omega) ?_
      intro v28 w7 ho7 hb7 hg7 hat7
      obtain ⟨A28, c28, e28⟩ := Kd.R_slice ho7
      subst e28
      replace HB := zk hb7
      have HR28 := zk ho7
      clear hat7 hg7 hb7 ho7 HL27 HR25
      refine hK.out _ _ (cell_of_one (HCh.out.fr (Fr.of_below (S := S) HB.out) hs1 hs2 hs3 hs4).ha) (fun hHeld => ?_)
      clear hK K
      refine zM 28 ?_
      refine one_ (i := 8) (N := some 31) #[true, true, true, true, true, true, true, true, true] rfl rfl (by kernel_rfl) (by decide) (fun K hK => ?_)
      obtain ⟨P8, hP8⟩ : ∃ p, addG f n many r1 (xs ++ [((n - (r1 + 1) : Nat) : Int)]) s1 = p := ⟨_, rfl⟩
      have hbw : bS ≤ w1.heap.size := Nat.le_trans hbs HF.out.size
      have HC7 := zk (HCh.out.fr (S := S) (Fr.of_below HB.out) hs1 hs2 hs3 hs4)
      have HR7 := zk (show Kd.R (Kd.int .i64) 3 w7 bS (fun k => ¬ S k) (.slice A28 (xs ++ [((n - (r1 + 1) : Nat) : Int)]).length c28) (xs ++ [((n - (r1 + 1) : Nat) : Int)]) from Kd.R_of_own (Kd.own_of_R (Kd.R_lower HR28.out hbw)) (fun k hk hs => by have := Kd.R_base HR28.out k hk; have := hSlt k hs; omega))
      have H8 := HIH.out r1 (by omega) A28 c28 (xs ++ [((n - (r1 + 1) : Nat) : Int)]) s1 w7 (by simp; omega) (fun x hx => by rcases List.mem_append.1 hx with hx | hx; exact HXQ.out x hx; (have hx := List.mem_singleton.1 hx; omega)) (HII.out _ _ _ HI.out HB.out) (Nat.le_trans hbw HB.out.size) HC7.out HR7.out
      rw [← hw64] at H8
      refine call_ 247 #[.slice A28 (xs ++ [((n - (r1 + 1) : Nat) : Int)]).length c28, .int .i64 (wrap64 (((n - (r1 + 1) : Nat) : Int) + 1)), .pointer (some ⟨gm, 0, none⟩), .pointer (some ⟨gw, 0, none⟩), .pointer (some ⟨gn, 0, none⟩), .pointer (some ⟨ga, 0, none⟩)] (by rfl) rfl ?hrun8 ?_; (case hrun8 => clear H8; go_simp; (try rfl); trace_state)
      with_reducible refine H8.mono ?_
      rintro e8 w8 ⟨he8, hI8, hF8⟩
      rw [hP8] at he8 hI8
      subst he8
      obtain ⟨s8, b8⟩ := P8
      simp only at hI8
      have HX := zk (And.intro hI8 hF8)
      have HC8 := zk (HC7.out.fr hF8 hs1 hs2 hs3 hs4)
      have HP8 := zk hP8
      clear hI8 hF8 H8 hP8
      refine ⟨_, rfl, ?_⟩
      refine hK.out _ _ (cell_of_one HC8.out.ha) (fun hHeld => ?_)
      clear hK K
      refine zM 31 ?_
      refine done_ (by kernel_rfl) ?_
      have e := HP.out
      rw [loopG_succ, HP8.out] at e
      have HFF := zk (HF.out.trans ((Fr.of_below HB.out).trans HX.out.2))
      have HI8 := zk HX.out.1
      cases b8 with
      | true =>
       simp only [if_true] at e
       subst e
       try go_wp2
       go_ret
       exact ⟨rfl, HI8.out, HFF.out⟩
      | false =>
       simp only [Bool.false_eq_true, if_false] at e
       have HE := zk e
       clear e
       try go_wp2
       go_roundg r1
       case measure => omega
       case rel => exact ⟨r1, s8, by simp [hw64]; omega, rfl, by omega, HE, HI8, HFF⟩
set_option maxHeartbeats 8000000 in
set_option maxRecDepth 100000 in
theorem choose_calls_fw {σ : Type} (f : σ → List Int → σ × Bool) (I : σ → World → Prop) (S : Nat → Prop) (c1_ c2_ c3_ c4_ : Value) (n many : Nat) (s : σ) (w : World)
 (hI : ∀ s W W', I s W → Below W.heap.size W W' → I s W')
 (hcb : ∀ s W A c xs, I s W → w.heap.size ≤ W.heap.size → Kd.R (Kd.int .i64) 3 W w.heap.size (fun k => ¬ S k) (.slice A xs.length c) xs → xs.length = many → (∀ x ∈ xs, 0 ≤ x ∧ x < (n : Int)) → Calls Try.prog 266 #[.slice A xs.length c, c1_, c2_, c3_, c4_] W fun e w' => e = .returned (.bool (f s xs).2) ∧ I (f s xs).1 w' ∧ Fr S W w')
 (hSlt : ∀ k, S k → k < w.heap.size) (hn : n < 1073741824) (hs : I s w) :
 Calls Try.prog 159 #[.int .i64 (n : Int), .int .i64 (many : Int), .func (.func 266) #[] #[c1_, c2_, c3_, c4_]] w fun e w' => e = .returned (.tuple #[]) ∧ I (addG f n many n [] s).1 w' ∧ Fr S w w' := by
 have hmf : ∀ (fn : Fn) (first cap : Array Value) (w : World), (Instr.makeFunc fn first cap).run Try.prog w = .ok (.func fn first cap) w := fun _ _ _ _ => rfl
 have HII := zk hI
 have HCB := zk hcb
 have HS := zk hSlt
 have HI := zk hs
 clear hI hcb hSlt hs
 have z1 : ∀ (W : World) (o : Obj), (W.alloc o).heap.size = W.heap.size + 1 := fun W o => by simp
 have hga : ((((w.alloc (Obj.cells #[Value.int IntKind.i64 ↑n]  3)).alloc (Obj.cells #[Value.int IntKind.i64 ↑many]  3)).alloc (Obj.cells #[Value.func (Fn.func 266) #[] #[c1_, c2_, c3_, c4_]] 27)).alloc (Obj.cells #[Value.nilFunc] 39)).heap[w.heap.size + 1 + 1 + 1]? = some (.cells #[Value.nilFunc] 39 (0, 0)) := by
  have := blk_new (((w.alloc (Obj.cells #[Value.int IntKind.i64 ↑n]  3)).alloc (Obj.cells #[Value.int IntKind.i64 ↑many]  3)).alloc (Obj.cells #[Value.func (Fn.func 266) #[] #[c1_, c2_, c3_, c4_]] 27)) (Obj.cells #[Value.nilFunc] 39)
  rwa [z1, z1, z1] at this
 have zc := cell_of_one hga
 have zf := free_of_one hga
 clear hga
 have hst : ∀ (fn : Fn) (x y : Array Value) (a : Addr) (W : World), (store a (.func fn x y)).run Try.prog W = stored Try.prog W a (.func fn x y) .plain := fun fn x y a W => run_store Try.prog W a _ .plain rfl
 have hbel : Below w.heap.size w (((((w.alloc (Obj.cells #[Value.int IntKind.i64 ↑n]  3)).alloc (Obj.cells #[Value.int IntKind.i64 ↑many]  3)).alloc (Obj.cells #[Value.func (Fn.func 266) #[] #[c1_, c2_, c3_, c4_]] 27)).alloc (Obj.cells #[(Value.func (Fn.func 247) #[] #[Value.pointer (some { block := w.heap.size + 1, off := 0 }), Value.pointer (some { block := w.heap.size + 1 + 1, off := 0 }), Value.pointer (some { block := w.heap.size, off := 0 }), Value.pointer (some { block := w.heap.size + 1 + 1 + 1, off := 0 })])] 39)).alloc (Obj.cells #[]  3)) := za (za (za (za (za (Below.refl _ _) _) _) _) _) _
 have hch : Ch 3 27 39 (((((w.alloc (Obj.cells #[Value.int IntKind.i64 ↑n]  3)).alloc (Obj.cells #[Value.int IntKind.i64 ↑many]  3)).alloc (Obj.cells #[Value.func (Fn.func 266) #[] #[c1_, c2_, c3_, c4_]] 27)).alloc (Obj.cells #[(Value.func (Fn.func 247) #[] #[Value.pointer (some { block := w.heap.size + 1, off := 0 }), Value.pointer (some { block := w.heap.size + 1 + 1, off := 0 }), Value.pointer (some { block := w.heap.size, off := 0 }), Value.pointer (some { block := w.heap.size + 1 + 1 + 1, off := 0 })])] 39)).alloc (Obj.cells #[]  3)) (w.heap.size + 1) (w.heap.size + 1 + 1) w.heap.size (w.heap.size + 1 + 1 + 1) (.int .i64 (many : Int)) (.func (.func 266) #[] #[c1_, c2_, c3_, c4_]) (.int .i64 (n : Int)) (Value.func (Fn.func 247) #[] #[Value.pointer (some { block := w.heap.size + 1, off := 0 }), Value.pointer (some { block := w.heap.size + 1 + 1, off := 0 }), Value.pointer (some { block := w.heap.size, off := 0 }), Value.pointer (some { block := w.heap.size + 1 + 1 + 1, off := 0 })]) := by
  refine ⟨?_, ?_, ?_, ?_⟩
  · exact blk_alloc (blk_alloc (blk_alloc (by have := blk_new (w.alloc (Obj.cells #[Value.int IntKind.i64 ↑n]  3)) (Obj.cells #[Value.int IntKind.i64 ↑many]  3); rwa [z1] at this) _) _) _
  · exact blk_alloc (blk_alloc (by have := blk_new ((w.alloc (Obj.cells #[Value.int IntKind.i64 ↑n]  3)).alloc (Obj.cells #[Value.int IntKind.i64 ↑many]  3)) (Obj.cells #[Value.func (Fn.func 266) #[] #[c1_, c2_, c3_, c4_]] 27); rwa [z1, z1] at this) _) _
  · exact blk_alloc (blk_alloc (blk_alloc (blk_alloc (blk_new w (Obj.cells #[Value.int IntKind.i64 ↑n]  3)) _) _) _) _
  · exact blk_alloc (by have := blk_new (((w.alloc (Obj.cells #[Value.int IntKind.i64 ↑n]  3)).alloc (Obj.cells #[Value.int IntKind.i64 ↑many]  3)).alloc (Obj.cells #[Value.func (Fn.func 266) #[] #[c1_, c2_, c3_, c4_]] 27)) (Obj.cells #[(Value.func (Fn.func 247) #[] #[Value.pointer (some { block := w.heap.size + 1, off := 0 }), Value.pointer (some { block := w.heap.size + 1 + 1, off := 0 }), Value.pointer (some { block := w.heap.size, off := 0 }), Value.pointer (some { block := w.heap.size + 1 + 1 + 1, off := 0 })])] 39); rwa [z1, z1, z1] at this) _
 have hrow : Kd.R (Kd.int .i64) 3 (((((w.alloc (Obj.cells #[Value.int IntKind.i64 ↑n]  3)).alloc (Obj.cells #[Value.int IntKind.i64 ↑many]  3)).alloc (Obj.cells #[Value.func (Fn.func 266) #[] #[c1_, c2_, c3_, c4_]] 27)).alloc (Obj.cells #[(Value.func (Fn.func 247) #[] #[Value.pointer (some { block := w.heap.size + 1, off := 0 }), Value.pointer (some { block := w.heap.size + 1 + 1, off := 0 }), Value.pointer (some { block := w.heap.size, off := 0 }), Value.pointer (some { block := w.heap.size + 1 + 1 + 1, off := 0 })])] 39)).alloc (Obj.cells #[]  3)) w.heap.size (fun k => ¬ S k) (.slice (some { block := w.heap.size + 1 + 1 + 1 + 1, off := 0 }) ([] : List Int).length 0) [] :=
  Kd.R_of_own ⟨rfl, Or.inr ⟨w.heap.size + 1 + 1 + 1 + 1, 0, #[], rfl, by omega, by have := blk_new ((((w.alloc (Obj.cells #[Value.int IntKind.i64 ↑n]  3)).alloc (Obj.cells #[Value.int IntKind.i64 ↑many]  3)).alloc (Obj.cells #[Value.func (Fn.func 266) #[] #[c1_, c2_, c3_, c4_]] 27)).alloc (Obj.cells #[(Value.func (Fn.func 247) #[] #[Value.pointer (some { block := w.heap.size + 1, off := 0 }), Value.pointer (some { block := w.heap.size + 1 + 1, off := 0 }), Value.pointer (some { block := w.heap.size, off := 0 }), Value.pointer (some { block := w.heap.size + 1 + 1 + 1, off := 0 })])] 39)) (Obj.cells #[]  3); rwa [z1, z1, z1, z1] at this, Nat.le_refl _, Nat.zero_le _, rfl, rfl⟩⟩ (fun k hk hs => by
   have h1 := HS.out k hs
   have h2 : w.heap.size + 1 + 1 + 1 + 1 = k := by simpa [Value.ownBlock] using hk
   omega)
 have H := choose_add_fw f I S c1_ c2_ c3_ c4_ n many w.heap.size (w.heap.size + 1) (w.heap.size + 1 + 1) w.heap.size (w.heap.size + 1 + 1 + 1) HII.out HCB.out HS.out (fun h => by have := HS.out _ h; omega) (fun h => by have := HS.out _ h; omega) (fun h => by have := HS.out _ h; omega) (fun h => by have := HS.out _ h; omega) hn n (some { block := w.heap.size + 1 + 1 + 1 + 1, off := 0 }) 0 [] s (((((w.alloc (Obj.cells #[Value.int IntKind.i64 ↑n]  3)).alloc (Obj.cells #[Value.int IntKind.i64 ↑many]  3)).alloc (Obj.cells #[Value.func (Fn.func 266) #[] #[c1_, c2_, c3_, c4_]] 27)).alloc (Obj.cells #[(Value.func (Fn.func 247) #[] #[Value.pointer (some { block := w.heap.size + 1, off := 0 }), Value.pointer (some { block := w.heap.size + 1 + 1, off := 0 }), Value.pointer (some { block := w.heap.size, off := 0 }), Value.pointer (some { block := w.heap.size + 1 + 1 + 1, off := 0 })])] 39)).alloc (Obj.cells #[]  3)) (by simp) (by simp) (HII.out _ _ _ HI.out hbel) hbel.size hch hrow
 rw [show ((n - n : Nat) : Int) = 0 by simp] at H
 have HH := zk H
 have HBel := zk hbel
 clear H hrow hch hbel z1
 go_enter Try.func159, Try.ntmps159
 go_wp2_with (go_at_call 247; refine HH.out.mono ?_; rintro e_ w2 ⟨rfl, h1, h2⟩; have HX := zk (And.intro h1 h2); clear h1 h2)
 go_end0
 exact ⟨rfl, HX.out.1, (Fr.of_below HBel.out).trans HX.out.2⟩
def woGo (xs : List Int) : List Int → Int → List Int
 | [], _ => []
 | c :: s, i => if i ∈ xs then woGo xs s (i + 1) else c :: woGo xs s (i + 1)
def woG (l xs : List Int) : List Int := woGo xs l 0
theorem woGo_length (xs : List Int) : ∀ (s : List Int) (i : Int), (woGo xs s i).length ≤ s.length := by
 intro s
 induction s with
 | nil => intro i; exact Nat.le_refl _
 | cons c s ih => intro i; have := ih (i + 1); simp only [woGo]; split <;> simp <;> omega
theorem impl_without_l (l xs : List Int) (hl : l.length ≤ 7) (hx : xs.length ≤ 7) : ∀ (suf pre out : List Int), l = pre ++ suf → out.length ≤ pre.length → Ev (fun k => impl_without.l0 k xs out l (l.length : Int) (pre.length : Int)) (out ++ woGo xs suf (pre.length : Int)) := by
 intro suf
 induction suf with
 | nil =>
  intro pre out e ho
  have h := len_end e
  refine ev_succ ?_
  simp only [impl_without.l0.eq_2]
  exact ev_neg (by omega) (ev_now (by simp [woGo]))
 | cons c suf ih =>
  intro pre out e ho
  have h := len_mid e
  refine ev_succ ?_
  simp only [impl_without.l0.eq_2, rd_mid' e]
  rw [wrap_snoc (pre := pre) (c := c) (by omega)]
  refine ev_pos (by omega) (ev_pos (by omega) (ev_pos (by omega) (ev_bind (contains_ev xs (pre.length : Int) (by omega)) ?_)))
  have e2 : ((pre ++ [c]).length : Int) = (pre.length : Int) + 1 := by simp
  by_cases hc : (pre.length : Int) ∈ xs
  · refine ev_pos (by simp [hc]) (ev_eq (ih _ _ (snoc_mid e) (by simp; omega)) ?_)
    rw [e2]; simp [woGo, hc]
  · refine ev_neg (by simp [hc]) (ev_pos (by omega) (ev_eq (ih _ _ (snoc_mid e) (by simp; omega)) ?_))
    rw [e2]; simp [woGo, hc]
theorem impl_without_ev (l xs : List Int) (hl : l.length ≤ 7) (hx : xs.length ≤ 7) : Ev (fun k => impl_without.f k l xs) (woG l xs) := by
 unfold impl_without.f woG
 have := impl_without_l l xs hl hx l [] [] rfl (Nat.le_refl _)
 simpa using this
theorem drops_some (l p : List Int) (hl : l.length ≤ 7) (hp : p.length ≤ 7) : impl_contains.f l p = some (fpR l p).2 := by
 unfold impl_contains.f impl_firstPlaces.f
 rw [if_pos ⟨hl, hp⟩]; rfl
set_option maxHeartbeats 8000000 in
set_option maxRecDepth 100000 in
theorem drops_cb (p : List Int) (A1 : Option Addr) (c1 : Nat) (w0 : World) (gq : Nat) (vq : Value) (hv : vq = .slice A1 p.length c1) (hp0 : Kd.C (Kd.int .i64) w0 A1 p.length p) (hc1 : p.length ≤ c1)
 (W : World) (A : Option Addr) (c : Nat) (xs : List Int) (hb : Below w0.heap.size w0 W) (hq : W.heap[gq]? = some (.cells #[vq] 22 (0, 0))) (hC : Kd.C (Kd.int .i64) W A xs.length xs) (hc : xs.length ≤ c) (hl : xs.length ≤ 7) (hp7 : p.length ≤ 7) :
 Calls Try.prog 242 #[.slice A xs.length c, .pointer (some ⟨gq, 0, none⟩)] W fun e w' => e = .returned (.bool (!(fpR xs p).2)) ∧ Below W.heap.size W w' := by
 subst hv
 have H := impl_contains.calls A c xs A1 c1 p (fpR xs p).2 W hC hc (Kd.C_below hp0 hb) hc1 (drops_some xs p hl hp7)
 have cg := cell_of_one hq
 obtain ⟨b, hb2⟩ : ∃ b, (fpR xs p).2 = b := ⟨_, rfl⟩
 rw [hb2] at H ⊢
 have HH := zk H
 clear H hb2 hC hp0 hb hq
 cases b with
 | true =>
  go_enter Try.func242, Try.ntmps242
  go_wp2_with (go_at_call 238; refine HH.out.mono ?_; rintro e_ w2 ⟨rfl, hb2⟩; have HX := zk hb2; clear hb2)
  go_ret
  exact ⟨rfl, HX.out⟩
 | false =>
  go_enter Try.func242, Try.ntmps242
  go_wp2_with (go_at_call 238; refine HH.out.mono ?_; rintro e_ w2 ⟨rfl, hb2⟩; have HX := zk hb2; clear hb2)
  go_ret
  exact ⟨rfl, HX.out⟩
/-- fewest's captured variables: the test, the order, the pattern (the test's own), whether one is found, and the places. -/
structure Fw (tL tI tB tF : TypeId) (w0 W : World) (gs gl gq gf go : Nat) (vF v0 v1 : Value) (s : List Int × Bool) : Prop where
 hs : W.heap[gs]? = some (.cells #[vF] tF (0, 0))
 hl : W.heap[gl]? = some (.cells #[v0] tL (0, 0))
 hq : W.heap[gq]? = some (.cells #[v1] tL (0, 0))
 hf : W.heap[gf]? = some (.cells #[.bool s.2] tB (0, 0))
 ho : ∃ v, W.heap[go]? = some (.cells #[v] tL (0, 0)) ∧ Kd.R (Kd.int .i64) tI W w0.heap.size (fun k => ¬ (k = gf ∨ k = go)) v s.1
 hb : Below w0.heap.size w0 W
 gf_ : w0.heap.size ≤ gf
 go_ : w0.heap.size ≤ go
 n1 : tL ≠ tB
 n2 : gl ≠ go
 n3 : gq ≠ go
 n4 : tF ≠ tB
 n5 : tF ≠ tL
 l1 : gf < W.heap.size
 l2 : go < W.heap.size
theorem Fw.below {tL tI tB tF : TypeId} {w0 W : World} {gs gl gq gf go : Nat} {vF v0 v1 : Value} {s : List Int × Bool} (h : Fw tL tI tB tF w0 W gs gl gq gf go vF v0 v1 s) {W' : World} (hb : Below W.heap.size W W') : Fw tL tI tB tF w0 W' gs gl gq gf go vF v0 v1 s := by
 obtain ⟨v, h1, h2⟩ := h.ho
 exact ⟨blk_below h.hs hb, blk_below h.hl hb, blk_below h.hq hb, blk_below h.hf hb, ⟨v, blk_below h1 hb, Kd.R_below h2 hb⟩, below_step h.hb hb, h.gf_, h.go_, h.n1, h.n2, h.n3, h.n4, h.n5, Nat.lt_of_lt_of_le h.l1 hb.size, Nat.lt_of_lt_of_le h.l2 hb.size⟩
theorem Fw.putF {tL tI tB tF : TypeId} {w0 W : World} {gs gl gq gf go : Nat} {vF v0 v1 : Value} {s : List Int × Bool} (h : Fw tL tI tB tF w0 W gs gl gq gf go vF v0 v1 s) (b : Bool) : Fw tL tI tB tF w0 (W.setCell ⟨gf, 0, none⟩ (.bool b)) gs gl gq gf go vF v0 v1 (s.1, b) := by
 obtain ⟨v, h1, h2⟩ := h.ho
 exact ⟨blk_far h.hs (blk_ne h.hs h.hf h.n4) _, blk_far h.hl (blk_ne h.hl h.hf h.n1) _, blk_far h.hq (blk_ne h.hq h.hf h.n1) _, one_setCell h.hf, ⟨v, blk_far h1 (blk_ne h1 h.hf h.n1) _, Kd.R_far h2 (fun k hk e => hk (.inl e)) _⟩, h.hb.setCell h.gf_ _, h.gf_, h.go_, h.n1, h.n2, h.n3, h.n4, h.n5, by simpa using h.l1, by simpa using h.l2⟩
theorem Fw.putO {tL tI tB tF : TypeId} {w0 W : World} {gs gl gq gf go : Nat} {vF v0 v1 : Value} {s : List Int × Bool} (h : Fw tL tI tB tF w0 W gs gl gq gf go vF v0 v1 s) (u : Value) (xs : List Int) (hr : Kd.R (Kd.int .i64) tI W w0.heap.size (fun k => ¬ (k = gf ∨ k = go)) u xs) : Fw tL tI tB tF w0 (W.setCell ⟨go, 0, none⟩ u) gs gl gq gf go vF v0 v1 (xs, s.2) := by
 obtain ⟨v, h1, h2⟩ := h.ho
 exact ⟨blk_far h.hs (blk_ne h.hs h1 h.n5) _, blk_far h.hl h.n2 _, blk_far h.hq h.n3 _, blk_far h.hf (fun e => absurd e.symm (blk_ne h1 h.hf h.n1)) _, ⟨u, one_setCell h1, Kd.R_far hr (fun k hk e => hk (.inr e)) _⟩, h.hb.setCell h.go_ _, h.gf_, h.go_, h.n1, h.n2, h.n3, h.n4, h.n5, by simpa using h.l1, by simpa using h.l2⟩
set_option maxHeartbeats 8000000 in
set_option maxRecDepth 100000 in
theorem fewest_cb (l p : List Int) (A0 A1 : Option Addr) (c0 c1 : Nat) (w0 : World) (gs gl gq gf go : Nat) (many : Nat) (hl7 : l.length ≤ 7) (hp7 : p.length ≤ 7) (hm7 : many ≤ 7)
 (hl0 : Kd.C (Kd.int .i64) w0 A0 l.length l) (hc0 : l.length ≤ c0) (hp0 : Kd.C (Kd.int .i64) w0 A1 p.length p) (hc1 : p.length ≤ c1) :
 ∀ (s : List Int × Bool) (W : World) (bS : Nat) (A : Option Addr) (c : Nat) (xs : List Int), w0.heap.size ≤ bS → Fw 22 3 4 27 w0 W gs gl gq gf go (.func (.func 242) #[] #[.pointer (some ⟨gq, 0, none⟩)]) (.slice A0 l.length c0) (.slice A1 p.length c1) s → Kd.R (Kd.int .i64) 3 W bS (fun k => ¬ (k = gf ∨ k = go)) (.slice A xs.length c) xs → xs.length = many →
  Calls Try.prog 266 #[.slice A xs.length c, .pointer (some ⟨gs, 0, none⟩), .pointer (some ⟨gl, 0, none⟩), .pointer (some ⟨gf, 0, none⟩), .pointer (some ⟨go, 0, none⟩)] W fun e w' => e = .returned (.bool (!(fpR (woG l xs) p).2)) ∧ Fw 22 3 4 27 w0 w' gs gl gq gf go (.func (.func 242) #[] #[.pointer (some ⟨gq, 0, none⟩)]) (.slice A0 l.length c0) (.slice A1 p.length c1) (xs, !(fpR (woG l xs) p).2) ∧ Fr (fun k => k = gf ∨ k = go) W w' := by
 intro s W bS A c xs hbS hC hR hx
 obtain ⟨k1, h1⟩ := impl_without_ev l xs hl7 (by omega)
 replace h1 := h1 k1 (Nat.le_refl _)
 obtain ⟨b, hb⟩ : ∃ b, (!(fpR (woG l xs) p).2) = b := ⟨_, rfl⟩
 have hwl : (woG l xs).length ≤ 7 := Nat.le_trans (woGo_length xs l 0) hl7
 have HBB := zk hb
 rw [hb]
 replace h1 := zk h1
 have HC := zk hC
 have HR := zk hR
 have HL0 := zk hl0
 have hP := zk hp0
 clear hC hR hx hl0 hp0 hb
 go_enter Try.func266, Try.ntmps266
 go_wp2_with (fail)
 refine start_ (n := 6) (S := fun w' => w'.cell? ⟨gs, 0, none⟩ = some (.func (.func 242) #[] #[.pointer (some ⟨gq, 0, none⟩)]) ∧ w'.cell? ⟨gl, 0, none⟩ = some (.slice A0 l.length c0)) (ds := [5]) #[false, false, false, false, false, false] (by kernel_rfl) rfl rfl ⟨cell_of_one HC.out.hs, cell_of_one HC.out.hl⟩ (fun hHeld => ?_)
 replace HC := zk (HC.out.below (below_drew (Below.refl _ _)))
 replace HR := zk (zt HR.out)
 have HF := zk (Fr.of_below (S := fun k => k = gf ∨ k = go) (below_drew (Below.refl W.heap.size W)))
 generalize W.drew = w1 at HC HR HF hHeld ⊢
 have HB := zk (Below.refl w1.heap.size w1)
 refine zP (i := 2) (N := some 9) #[false, false, true, false, false, false] ?_
 refine take_ (i := 0) (N := some 7) (v := ?_) (a' := ?_) #[true, false, true, false, false, false] rfl rfl (by kernel_rfl) (fun _ _ _ h => h) (Or.inl ⟨by rfl, ?_⟩) hHeld ?_ ?_
 rotate_left
 · rintro w' ⟨s0, s1⟩
   go_simp
   with_reducible rfl
 rotate_left
 · exact zQ
 refine take_ (i := 1) (N := some 8) (v := ?_) (a' := ?_) #[true, true, true, false, false, false] rfl rfl (by kernel_rfl) (fun _ _ _ h => h) (Or.inl ⟨by rfl, ?_⟩) hHeld ?_ ?_
 rotate_left
 · rintro w' ⟨s0, s1⟩
   go_simp
   with_reducible rfl
 rotate_left
 · exact zQ
 refine one_ (i := 3) (N := some 10) #[true, true, true, true, false, false] rfl rfl (by kernel_rfl) (by decide) (fun K hK => ?_)
 refine goes_ Try.func267 (by kernel_rfl) rfl #[.slice A0 l.length c0, .slice A xs.length c] (by rfl) rfl rfl (by simp only [List.map_toArray, List.map_cons, List.map_nil]; rfl) ?_
 with_reducible refine (impl_without.calls k1 A0 c0 l A c xs _ _ (Kd.C_below HL0.out (HC.out.hb.trans (Go.Proofs.Ytlkddcabjcejdaa.Base.below_below HB.out HC.out.hb.size))) hc0 (Kd.R_reads' HR.out).2.2 (Kd.R_reads' HR.out).2.1 h1.out).mono ?_
 rintro e_ w2 ⟨v10, rfl, hR10, hb2⟩
 replace HB := zk (below_step HB.out hb2)
 obtain ⟨A10, c10, e10⟩ := Kd.R_slice hR10
 subst e10
 have HR10 := zk hR10
 clear hR10 hb2
 refine ⟨_, rfl, ?_⟩
 refine hK.out _ _ ⟨cell_of_one (blk_below HC.out.hs HB.out), cell_of_one (blk_below HC.out.hl HB.out)⟩ (fun hHeld => ?_)
 clear hK K
 refine zM 10 ?_
 refine one_ (i := 4) (N := some 11) #[true, true, true, true, true, false] rfl rfl (by kernel_rfl) (by decide) (fun K hK => ?_)
 have H8 := drops_cb p A1 c1 w0 gq (.slice A1 p.length c1) rfl hP.out hc1 _ A10 c10 (woG l xs) (HC.out.hb.trans (Go.Proofs.Ytlkddcabjcejdaa.Base.below_below HB.out HC.out.hb.size)) (blk_below HC.out.hq HB.out) (Kd.R_reads' HR10.out).2.2 (Kd.R_reads' HR10.out).2.1 hwl hp7
 rw [HBB.out] at H8
 refine call_ 242 #[.slice A10 (woG l xs).length c10, .pointer (some ⟨gq, 0, none⟩)] (by rfl) rfl ?hrun8 ?_; (case hrun8 => clear H8; go_simp; (try rfl))
 with_reducible refine H8.mono ?_
 rintro e8 w8 ⟨rfl, hb8⟩
 replace HB := zk (below_step HB.out hb8)
 clear H8 hb8
 refine ⟨_, rfl, ?_⟩
 refine hK.out _ _ ⟨cell_of_one (blk_below HC.out.hs HB.out), cell_of_one (blk_below HC.out.hl HB.out)⟩ (fun hHeld => ?_)
 clear hK K
 refine zM 11 ?_
 refine last_ (i := 5) (N := none) #[true, true, true, true, true, true] rfl rfl (by kernel_rfl) (by decide) (fun K hK => ?_)
 have HC5 := zk (HC.out.below HB.out)
 have HRP := zk (Kd.R_below HR.out HB.out)
 have cf := cell_of_one HC5.out.hf
 have ff := free_of_one HC5.out.hf
 refine skip_ (w1 := ?_) (by rfl) rfl ?_ ?_
 rotate_left
 · go_simp
   rfl
 refine hK.out _ _ ?_
 clear hK K
 refine done_ (by kernel_rfl) ?_
 have HF5 := zk (HF.out.trans (Fr.of_below HB.out))
 have HF6 := zk (HF5.out.trans (Fr.set (S := fun k => k = gf ∨ k = go) (W := w8) (g := gf) (.inl rfl) 0 (.bool b)))
 have HC6 := zk (HC5.out.putF b)
 have HR6 := zk (Kd.R_far HRP.out (p := ⟨gf, 0, none⟩) (fun k hk e => hk (.inl e)) (.bool b))
 clear hHeld cf ff
 generalize w8.setCell _ _ = w6 at HF6 HC6 HR6 ⊢
 obtain ⟨vo, ho, hRo⟩ := HC6.out.ho
 have co := cell_of_one ho
 have fo := free_of_one ho
 have HC7 := zk (HC6.out.putO (.slice A xs.length c) xs (Kd.R_lower HR6.out hbS))
 have cf := cell_of_one HC7.out.hf
 have HRo := zk hRo
 clear hRo ho
 go_wp2
 go_ret
 exact ⟨rfl, HC7.out, HF6.out.trans (Fr.set (S := fun k => k = gf ∨ k = go) (.inr rfl) _ _)⟩
def fwF (l p : List Int) (s : List Int × Bool) (xs : List Int) : (List Int × Bool) × Bool := ((xs, !(fpR (woG l xs) p).2), !(fpR (woG l xs) p).2)
/-- d tries are left. -/
def fwGo (l p : List Int) : Nat → Nat → List Int × Bool → List Int × Bool
 | 0, _, s => s
 | d + 1, many, s => if s.2 = true then s else fwGo l p d (many + 1) (addG (fwF l p) l.length many l.length [] s).1
def fwG (l p : List Int) : List Int × Bool := fwGo l p (l.length + 1) 0 ([], false)
set_option maxHeartbeats 8000000 in
set_option maxRecDepth 100000 in
theorem fewest_calls (A0 : Option Addr) (c0 : Nat) (l0 : List Int) (A1 : Option Addr) (c1 : Nat) (l1 : List Int) (w0 w : World) (gq : Nat) (hb0 : Below w0.heap.size w0 w) (hgq : w.heap[gq]? = some (.cells #[.slice A1 l1.length c1] 22 (0, 0))) (hr0 : Kd.C (Kd.int .i64) w0 A0 l0.length l0) (hc0 : l0.length ≤ c0) (hr1 : Kd.C (Kd.int .i64) w0 A1 l1.length l1) (hc1 : l1.length ≤ c1) (hl : l0.length ≤ 7) (hp : l1.length ≤ 7) :
 Calls Try.prog 241 #[.slice A0 l0.length c0, (.func (.func 242) #[] #[.pointer (some ⟨gq, 0, none⟩)])] w fun e w' => ∃ v0_ : Value, e = .returned (.tuple #[v0_, .bool (fwG l0 l1).2]) ∧ Kd.R (Kd.int .i64) 3 w' w0.heap.size (fun _ => True) v0_ (fwG l0 l1).1 ∧ Below w0.heap.size w0 w' := by
 have hmf : ∀ (fn : Fn) (first cap : Array Value) (w : World), (Instr.makeFunc fn first cap).run Try.prog w = .ok (.func fn first cap) w := fun _ _ _ _ => rfl
 have hst : ∀ (fn : Fn) (x y : Array Value) (a : Addr) (W : World), (store a (.func fn x y)).run Try.prog W = stored Try.prog W a (.func fn x y) .plain := fun fn x y a W => run_store Try.prog W a _ .plain rfl
 have z1 : ∀ (W : World) (o : Obj), (W.alloc o).heap.size = W.heap.size + 1 := fun W o => by simp
 have hz0 := hb0.size
 have hgl := blk_lt hgq
 have hc : Fw 22 3 4 27 w0 ((((w.alloc (Obj.cells #[Value.slice A0 l0.length c0] 22)).alloc (Obj.cells #[Value.func (Fn.func 242) #[] #[Value.pointer (some ⟨gq, 0, none⟩)]] 27)).alloc (Obj.cells #[Value.slice none 0 0]  22)).alloc (Obj.cells #[Value.bool false]  4)) (w.heap.size + 1) w.heap.size gq (w.heap.size + 1 + 1 + 1) (w.heap.size + 1 + 1) (.func (.func 242) #[] #[.pointer (some ⟨gq, 0, none⟩)]) (.slice A0 l0.length c0) (.slice A1 l1.length c1) ([], false) := by
  refine ⟨?_, ?_, ?_, ?_, ⟨.slice none 0 0, ?_, Kd.R_nil _ _ _ _ _⟩, ?_, by omega, by omega, by decide, by omega, by omega, by decide, by decide, by rw [z1, z1, z1, z1]; omega, by rw [z1, z1, z1, z1]; omega⟩
  · exact blk_alloc (blk_alloc (by have := blk_new (w.alloc (Obj.cells #[Value.slice A0 l0.length c0] 22)) (Obj.cells #[Value.func (Fn.func 242) #[] #[Value.pointer (some ⟨gq, 0, none⟩)]] 27); rwa [z1] at this) _) _
  · exact blk_alloc (blk_alloc (blk_alloc (blk_new w _) _) _) _
  · exact blk_alloc (blk_alloc (blk_alloc (blk_alloc hgq _) _) _) _
  · have := blk_new (((w.alloc (Obj.cells #[Value.slice A0 l0.length c0] 22)).alloc (Obj.cells #[Value.func (Fn.func 242) #[] #[Value.pointer (some ⟨gq, 0, none⟩)]] 27)).alloc (Obj.cells #[Value.slice none 0 0]  22)) (Obj.cells #[Value.bool false]  4)
    rwa [z1, z1, z1] at this
  · exact blk_alloc (by have := blk_new ((w.alloc (Obj.cells #[Value.slice A0 l0.length c0] 22)).alloc (Obj.cells #[Value.func (Fn.func 242) #[] #[Value.pointer (some ⟨gq, 0, none⟩)]] 27)) (Obj.cells #[Value.slice none 0 0]  22); rwa [z1, z1] at this) _
  · exact za (za (za (za hb0 _) _) _) _
 have HC := zk hc
 have HR0 := zk hr0
 have HR1 := zk hr1
 obtain ⟨R, hR⟩ : ∃ R, fwG l0 l1 = R := ⟨_, rfl⟩
 rw [hR]
 have HP := zk hR
 clear hR hr0 hr1 hc hb0 hgq hz0 hgl
 go_enter Try.func241, Try.ntmps241
 go_wp2
 generalize ((((w.alloc (Obj.cells #[Value.slice A0 l0.length c0] 22)).alloc (Obj.cells #[Value.func (Fn.func 242) #[] #[Value.pointer (some ⟨gq, 0, none⟩)]] 27)).alloc (Obj.cells #[Value.slice none 0 0]  22)).alloc (Obj.cells #[Value.bool false]  4)) = wa at HC ⊢
 go_loopg [8] (l0.length + 1) (fun kq v8 wr => ∃ (d many : Nat) (s : List Int × Bool), v8 = .int .i64 (many : Int) ∧ kq = d ∧ Aside0 (many + d = l0.length + 1) ∧ Aside0 (fwGo l0 l1 d many s = R) ∧ Aside0 (Fw 22 3 4 27 w0 wr (w.heap.size + 1) w.heap.size gq (w.heap.size + 1 + 1 + 1) (w.heap.size + 1 + 1) (.func (.func 242) #[] #[.pointer (some ⟨gq, 0, none⟩)]) (.slice A0 l0.length c0) (.slice A1 l1.length c1) s))
 case atStart => exact ⟨l0.length + 1, 0, ([], false), rfl, rfl, ⟨by omega⟩, HP, HC⟩
 case round =>
  clear HP HC
  obtain ⟨d, many, s, rfl, hkd, HN, HP, HC⟩ := hrel
  obtain rfl : d = gk := hkd.symm
  have cl := cell_of_one HC.out.hl
  have cf := cell_of_one HC.out.hf
  have hN := HN.out
  obtain ⟨o, b⟩ := s
  simp only at cf
  cases b with
  | true =>
   have e : (o, true) = R := by
    have e := HP.out
    cases d with
    | zero => exact e
    | succ d => simp only [fwGo, if_true] at e; exact e
   subst e
   obtain ⟨vo, ho, hRo⟩ := HC.out.ho
   have HRo := zk hRo
   have HHo := zk ho
   clear hRo ho
   by_cases hle : (many : Int) ≤ (l0.length : Int)
   · have hleb : decide ((many : Int) ≤ (l0.length : Int)) = true := decide_eq_true hle
     go_upto_region 6 with (fail)
     refine start_ (n := 4) (S := fun w' => w'.cell? ⟨w.heap.size + 1 + 1, 0, none⟩ = some vo ∧ w'.cell? ⟨w.heap.size + 1 + 1 + 1, 0, none⟩ = some (.bool true)) (ds := []) #[false, false, false, false] (by kernel_rfl) rfl rfl ⟨cell_of_one HHo.out, cell_of_one HC.out.hf⟩ (fun hHeld => ?_)
     refine take_ (i := 0) (N := some 24) (v := ?_) (a' := ?_) #[true, false, false, false] rfl rfl (by kernel_rfl) (fun _ _ _ h => h) (Or.inl ⟨by rfl, ?_⟩) hHeld ?_ ?_
     rotate_left
     · rintro w' ⟨s0, s1⟩
       go_simp
       with_reducible rfl
     rotate_left
     · exact zQ
     refine zP (i := 2) (N := some 4) #[true, false, true, false] ?_
     refine take_ (i := 1) (N := some 25) (v := ?_) (a' := ?_) #[true, true, true, false] rfl rfl (by kernel_rfl) (fun _ _ _ h => h) (Or.inl ⟨by rfl, ?_⟩) hHeld ?_ ?_
     rotate_left
     · rintro w' ⟨s0, s1⟩
       go_simp
       with_reducible rfl
     rotate_left
     · exact zQ
     refine zP (i := 3) (N := some 5) #[true, true, true, true] ?_
     refine done_ (by kernel_rfl) ?_
     try go_wp2
     go_ret2
     exact ⟨_, rfl, Kd.R_mono (zt HRo.out) (fun _ _ => trivial), below_drew HC.out.hb⟩
   · have hleb : decide ((many : Int) ≤ (l0.length : Int)) = false := decide_eq_false hle
     go_upto_region 6 with (fail)
     refine start_ (n := 4) (S := fun w' => w'.cell? ⟨w.heap.size + 1 + 1, 0, none⟩ = some vo ∧ w'.cell? ⟨w.heap.size + 1 + 1 + 1, 0, none⟩ = some (.bool true)) (ds := []) #[false, false, false, false] (by kernel_rfl) rfl rfl ⟨cell_of_one HHo.out, cell_of_one HC.out.hf⟩ (fun hHeld => ?_)
     refine take_ (i := 0) (N := some 24) (v := ?_) (a' := ?_) #[true, false, false, false] rfl rfl (by kernel_rfl) (fun _ _ _ h => h) (Or.inl ⟨by rfl, ?_⟩) hHeld ?_ ?_
     rotate_left
     · rintro w' ⟨s0, s1⟩
       go_simp
       with_reducible rfl
     rotate_left
     · exact zQ
     refine zP (i := 2) (N := some 4) #[true, false, true, false] ?_
     refine take_ (i := 1) (N := some 25) (v := ?_) (a' := ?_) #[true, true, true, false] rfl rfl (by kernel_rfl) (fun _ _ _ h => h) (Or.inl ⟨by rfl, ?_⟩) hHeld ?_ ?_
     rotate_left
     · rintro w' ⟨s0, s1⟩
       go_simp
       with_reducible rfl
     rotate_left
     · exact zQ
     refine zP (i := 3) (N := some 5) #[true, true, true, true] ?_
     refine done_ (by kernel_rfl) ?_
     try go_wp2
     go_ret2
     exact ⟨_, rfl, Kd.R_mono (zt HRo.out) (fun _ _ => trivial), below_drew HC.out.hb⟩
  | false =>
   cases d with
   | zero =>
    have e := HP.out
    simp only [fwGo] at e
    subst e
    obtain ⟨vo, ho, hRo⟩ := HC.out.ho
    have HRo := zk hRo
    have HHo := zk ho
    clear hRo ho
    have hle : ¬ (many : Int) ≤ (l0.length : Int) := by omega
    have hleb : decide ((many : Int) ≤ (l0.length : Int)) = false := decide_eq_false hle
    go_upto_region 6 with (fail)
    refine start_ (n := 4) (S := fun w' => w'.cell? ⟨w.heap.size + 1 + 1, 0, none⟩ = some vo ∧ w'.cell? ⟨w.heap.size + 1 + 1 + 1, 0, none⟩ = some (.bool false)) (ds := []) #[false, false, false, false] (by kernel_rfl) rfl rfl ⟨cell_of_one HHo.out, cell_of_one HC.out.hf⟩ (fun hHeld => ?_)
    refine take_ (i := 0) (N := some 24) (v := ?_) (a' := ?_) #[true, false, false, false] rfl rfl (by kernel_rfl) (fun _ _ _ h => h) (Or.inl ⟨by rfl, ?_⟩) hHeld ?_ ?_
    rotate_left
    · rintro w' ⟨s0, s1⟩
      go_simp
      with_reducible rfl
    rotate_left
    · exact zQ
    refine zP (i := 2) (N := some 4) #[true, false, true, false] ?_
    refine take_ (i := 1) (N := some 25) (v := ?_) (a' := ?_) #[true, true, true, false] rfl rfl (by kernel_rfl) (fun _ _ _ h => h) (Or.inl ⟨by rfl, ?_⟩) hHeld ?_ ?_
    rotate_left
    · rintro w' ⟨s0, s1⟩
      go_simp
      with_reducible rfl
    rotate_left
    · exact zQ
    refine zP (i := 3) (N := some 5) #[true, true, true, true] ?_
    refine done_ (by kernel_rfl) ?_
    try go_wp2
    go_ret2
    exact ⟨_, rfl, Kd.R_mono (zt HRo.out) (fun _ _ => trivial), below_drew HC.out.hb⟩
   | succ d =>
    have e := HP.out
    simp only [fwGo, Bool.false_eq_true, if_false] at e
    have HE := zk e
    have hm7 : many ≤ 7 := by omega
    have H := choose_calls_fw (fwF l0 l1) (fun s W => Fw 22 3 4 27 w0 W (w.heap.size + 1) w.heap.size gq (w.heap.size + 1 + 1 + 1) (w.heap.size + 1 + 1) (.func (.func 242) #[] #[.pointer (some ⟨gq, 0, none⟩)]) (.slice A0 l0.length c0) (.slice A1 l1.length c1) s) (fun k => k = w.heap.size + 1 + 1 + 1 ∨ k = w.heap.size + 1 + 1) (.pointer (some ⟨w.heap.size + 1, 0, none⟩)) (.pointer (some ⟨w.heap.size, 0, none⟩)) (.pointer (some ⟨w.heap.size + 1 + 1 + 1, 0, none⟩)) (.pointer (some ⟨w.heap.size + 1 + 1, 0, none⟩)) l0.length many (o, false) wr (fun s W W' h hb => h.below hb)
     (fun s W A c xs hI hsz hR hx hq => by
      refine (fewest_cb l0 l1 A0 A1 c0 c1 w0 (w.heap.size + 1) w.heap.size gq (w.heap.size + 1 + 1 + 1) (w.heap.size + 1 + 1) many hl hp hm7 HR0.out hc0 HR1.out hc1 s W _ A c xs HC.out.hb.size hI hR hx).mono ?_
      rintro e w' ⟨rfl, h1, h2⟩
      exact ⟨rfl, h1, h2⟩) (fun k hk => by rcases hk with hk | hk; exact hk ▸ HC.out.l1; exact hk ▸ HC.out.l2) (by omega) HC.out
    have HH := zk H
    have hle : (many : Int) ≤ (l0.length : Int) := by omega
    have hleb : decide ((many : Int) ≤ (l0.length : Int)) = true := decide_eq_true hle
    have hw64 : wrap64 ((many : Int) + 1) = (many : Int) + 1 := by unfold wrap64; omega
    clear H e hN
    go_wp2_with (go_at_call 159; refine HH.out.mono ?_; rintro e_ w2 ⟨rfl, h1, h2⟩; have HX := zk h1; clear h1 h2)
    go_roundg d
    case measure => omega
    case rel => exact ⟨d, many + 1, _, by simp, rfl, ⟨by have := HN.out; omega⟩, HE, HX⟩
def impl_FewestDrops.f (l0 : List Int) (l1 : List Int) : Option (List Int × Bool) := if l0.length ≤ 140737488351232 ∧ l1.length ≤ 140737488351232 then some (if isOrd l0 = true ∧ isOrd l1 = true ∧ 2 ≤ l1.length then fwG l0 l1 else ([], false)) else none
set_option maxHeartbeats 8000000 in
set_option maxRecDepth 100000 in
theorem impl_FewestDrops.calls (A0 : Option Addr) (c0 : Nat) (l0 : List Int) (A1 : Option Addr) (c1 : Nat) (l1 : List Int) (r1 : List Int) (r2 : Bool) (w : World) (hr0 : Kd.C (Kd.int .i64) w A0 l0.length l0) (hc0 : l0.length ≤ c0) (hr1 : Kd.C (Kd.int .i64) w A1 l1.length l1) (hc1 : l1.length ≤ c1) (h : impl_FewestDrops.f l0 l1 = some (r1, r2)) :
 Calls Try.prog 134 #[.slice A0 l0.length c0, .slice A1 l1.length c1] w fun e w' => ∃ v0_ : Value, e = .returned (.tuple #[v0_, .bool r2]) ∧ Kd.R (Kd.int .i64) 3 w' w.heap.size (fun _ => True) v0_ r1 ∧ Below w.heap.size w w' := by
 unfold impl_FewestDrops.f at h
 by_cases hlen : l0.length ≤ 140737488351232 ∧ l1.length ≤ 140737488351232
 · rw [if_pos hlen] at h
   have h := Option.some.inj h
   have hmf : ∀ (fn : Fn) (first cap : Array Value) (w : World), (Instr.makeFunc fn first cap).run Try.prog w = .ok (.func fn first cap) w := fun _ _ _ _ => rfl
   obtain ⟨k0, hk0⟩ := impl_order_ev l0 hlen.1
   obtain ⟨k1, hk1⟩ := impl_order_ev l1 hlen.2
   have K0 := zk (hk0 k0 (Nat.le_refl _))
   have K1 := zk (hk1 k1 (Nat.le_refl _))
   have HR0 := zk hr0
   have HR1 := zk hr1
   have hq1 : l1.length ≤ 140737488351232 := hlen.2
   have cg : (w.alloc (Obj.cells #[Value.slice A1 l1.length c1] 22)).cell? ⟨w.heap.size, 0, none⟩ = some (.slice A1 l1.length c1) := cell_of_one (blk_new w _)
   clear hk0 hk1 hr0 hr1 hlen
   cases h0 : isOrd l0 with
   | false =>
    rw [if_neg (by rw [h0]; simp)] at h
    obtain ⟨rfl, rfl⟩ := Prod.mk.inj h
    rw [h0] at K0
    clear h h0 cg
    go_enter Try.func134, Try.ntmps134
    go_wp2_with (go_at_call 146; refine (impl_isOrder.calls k0 A0 c0 l0 false _ (zv HR0.out _) hc0 K0.out).mono ?_; rintro e_ w2 ⟨rfl, ⟨nd, rfl⟩⟩)
    go_ret2
    exact ⟨_, rfl, Kd.R_nil _ _ _ _ _, zd (za (Below.refl _ _) _) _⟩
   | true =>
    cases h1 : isOrd l1 with
    | false =>
     rw [if_neg (by rw [h1]; simp)] at h
     obtain ⟨rfl, rfl⟩ := Prod.mk.inj h
     rw [h0] at K0
     rw [h1] at K1
     clear h h0 h1
     go_enter Try.func134, Try.ntmps134
     go_wp2_with (first | (go_at_call 146; (with_reducible refine (impl_isOrder.calls k0 A0 c0 l0 true _ (zv HR0.out _) hc0 K0.out).mono ?_); rintro e_ w2 ⟨rfl, ⟨nd, rfl⟩⟩) | (go_at_call 146; (with_reducible refine (impl_isOrder.calls k1 A1 c1 l1 false _ (zu (zv HR1.out _) _) hc1 K1.out).mono ?_); rintro e_ w3 ⟨rfl, ⟨nd2, rfl⟩⟩))
     go_ret2
     exact ⟨_, rfl, Kd.R_nil _ _ _ _ _, zd (za (Below.refl _ _) _) _⟩
    | true =>
     rw [h0] at K0
     rw [h1] at K1
     by_cases h2 : 2 ≤ l1.length
     · have e : (if isOrd l0 = true ∧ isOrd l1 = true ∧ 2 ≤ l1.length then fwG l0 l1 else ([], false)) = fwG l0 l1 := if_pos ⟨h0, h1, h2⟩
       rw [e] at h
       have h2i : ¬ ((l1.length : Int) < 2) := by omega
       have h2b : decide ((l1.length : Int) < 2) = false := decide_eq_false h2i
       have H := fun nd => fewest_calls A0 c0 l0 A1 c1 l1 w ((w.alloc (Obj.cells #[Value.slice A1 l1.length c1] 22)).drewN nd) w.heap.size (zd (za (Below.refl _ _) _) _) (blk_drewN (blk_new w _) _) HR0.out hc0 HR1.out hc1 (ord_len h0).2 (ord_len h1).2
       rw [h] at H
       have HH := zk H
       clear h H e h0 h1
       go_enter Try.func134, Try.ntmps134
       go_wp2_with (first | (go_at_call 146; (with_reducible refine (impl_isOrder.calls k0 A0 c0 l0 true _ (zv HR0.out _) hc0 K0.out).mono ?_); rintro e_ w2 ⟨rfl, ⟨nd, rfl⟩⟩) | (go_at_call 146; (with_reducible refine (impl_isOrder.calls k1 A1 c1 l1 true _ (zu (zv HR1.out _) _) hc1 K1.out).mono ?_); rintro e_ w3 ⟨rfl, ⟨nd2, rfl⟩⟩) | (go_at_call 241; refine (HH.out _).mono ?_; rintro e_ w4 ⟨v4, rfl, hr4, hb4⟩; have HX := zk hr4; have HY := zk hb4; clear hr4 hb4))
       go_ret2
       exact ⟨_, rfl, HX.out, HY.out⟩
     · rw [if_neg (fun hh => h2 hh.2.2)] at h
       obtain ⟨rfl, rfl⟩ := Prod.mk.inj h
       have h2i : (l1.length : Int) < 2 := by omega
       have h2b : decide ((l1.length : Int) < 2) = true := decide_eq_true h2i
       clear h h0 h1
       go_enter Try.func134, Try.ntmps134
       go_wp2_with (first | (go_at_call 146; (with_reducible refine (impl_isOrder.calls k0 A0 c0 l0 true _ (zv HR0.out _) hc0 K0.out).mono ?_); rintro e_ w2 ⟨rfl, ⟨nd, rfl⟩⟩) | (go_at_call 146; (with_reducible refine (impl_isOrder.calls k1 A1 c1 l1 true _ (zu (zv HR1.out _) _) hc1 K1.out).mono ?_); rintro e_ w3 ⟨rfl, ⟨nd2, rfl⟩⟩))
       go_ret2
       exact ⟨_, rfl, Kd.R_nil _ _ _ _ _, zd (za (Below.refl _ _) _) _⟩
 · rw [if_neg hlen] at h; cases h
end

/-! ### spec_l3Others: function 243 -/
def spec_l3Others.l0 : Nat → List Int → Int → List Int → Int → Option (List Int)
 | 0, _, _, _, _ => none
 | k + 1, x0, x1, x5, x6 => if x6 < x1 then ((spec_l1Has.f k x0 x6).bind fun t530 => (if t530 = true then (spec_l3Others.l0 k x0 x1 x5 (wrap64 (x6 + 1))) else (if x5.length < 17592186044416 then (spec_l3Others.l0 k x0 x1 (x5 ++ [x6]) (wrap64 (x6 + 1))) else (none)))) else (some x5)
def spec_l3Others.f (k : Nat) (l0 : List Int) (a1 : Int) : Option (List Int) := spec_l3Others.l0 k l0 a1 (([] : List Int)) 0
set_option maxHeartbeats 8000000 in
set_option maxRecDepth 100000 in
theorem spec_l3Others.calls (k : Nat) (A0 : Option Addr) (c0 : Nat) (l0 : List Int) (a1 : Int) (r : List Int) (w : World) (hr0 : Kd.C (Kd.int .i64) w A0 l0.length l0) (hc0 : l0.length ≤ c0) (h : spec_l3Others.f k l0 a1 = some r) :
 Calls Try.prog 243 #[.slice A0 l0.length c0, .int .i64 a1] w fun e w' => ∃ v0_ : Value, e = .returned (v0_) ∧ Kd.R (Kd.int .i64) 3 w' w.heap.size (fun _ => True) v0_ r ∧ Below w.heap.size w w' := by
 have HR0 := zk hr0
 have HC0 := zk hc0
 clear hr0 hc0
 have HB := zk (Below.refl w.heap.size w)
 have H : (spec_l3Others.l0 k l0 a1 (([] : List Int)) 0) = some r := h
 clear h
 obtain ⟨y527, hy527⟩ : ∃ y_ : List Int, y_ = (([] : List Int)) := ⟨_, rfl⟩
 replace H : (spec_l3Others.l0 k l0 a1 y527 0) = some r := by first | (rw [hy527]; with_reducible exact H) | (have H2_ := (Option.bind_some _ _).symm.trans H; rw [hy527]; with_reducible exact H2_) | (have H2_ := (Option.bind_some _ _).symm.trans H; with_reducible exact H2_) | with_reducible exact H | (rw [hy527]; exact H) | exact H
 have Ny527 := zk hy527
 clear hy527
 have H' := zk H
 clear H
 go_enter Try.func243, Try.ntmps243
 go_wp2_with (first | ((with_reducible refine gate_dst (N := 7) rfl ?_); refine zL 7 3 [] (Below.refl _ _) (Nat.le_refl _) ?_; intro v528 w3 ho4 hb hg_ hnew_; clear hg_ hnew_; (first | rw [← Ny527.out] at ho4 | (simp only [Int.reduceToNat] at ho4; rw [← Ny527.out] at ho4)); have HO529 := zk (Kd.R_lower ho4 (below_size (zB HB))); replace HB := zF HB hb; clear hb ho4))
 go_loopg [5, 6] k (fun kq v5 v6 w' => ∃ (x5_1 : List Int) (x6_1 : Int), v6 = .int .i64 x6_1 ∧ Aside0 (spec_l3Others.l0 kq l0 a1 x5_1 x6_1 = some r) ∧ Aside0 (kq ≤ k) ∧ Aside0 (Kd.R (Kd.int .i64) 3 w' w.heap.size (fun _ => True) v5 x5_1) ∧ Aside0 (Below w.heap.size w w'))
 case atStart => exact ⟨(y527), (0), (by first | rfl | (simp; done) | (simp [*]; done)), H', ⟨Nat.le_refl _⟩, ⟨by (with_reducible repeat (first | apply zs | apply zr | apply zt)); exact HO529.out⟩, ⟨by repeat (first | exact HB.out | apply za | apply zd | apply ze)⟩⟩
 case round =>
  clear H'
  try clear c2
  try clear p2
  obtain ⟨x5_1, x6_1, rfl, HA, HK1, HO_5, HB⟩ := hrel
  cases gk with
  | zero => exact absurd HA.out (by simp [spec_l3Others.l0])
  | succ k1 =>
   have H := HA.out
   clear HA
   simp only [spec_l3Others.l0] at H
   by_cases c5 : x6_1 < a1
   rotate_left
   · rw [if_neg c5] at H
     have c5b0 := decide_eq_false c5
     clear c5
     obtain rfl := Option.some.inj H
     go_wp2
     go_ret
     exact ⟨_, by first | rfl | (simp [errW_none, errW_some] <;> rfl) | (simp [*, errW_none, errW_some] <;> rfl), by (with_reducible repeat (first | apply zs | apply zr | apply zt)); exact HO_5.out, by repeat (first | exact HB.out | apply za | apply zd | apply ze)⟩
   rw [if_pos c5] at H
   have c5b0 := decide_eq_true c5
   clear c5
   replace H := Option.bind_eq_some_iff.mp H
   obtain ⟨t530, A60, H⟩ := H
   try dsimp only at H
   have A6 := zk A60
   clear A60
   by_cases c7 : t530 = true
   rotate_left
   · replace c7 := Bool.eq_false_iff.mpr c7
     subst c7
     have H1 : (if x5_1.length < 17592186044416 then (spec_l3Others.l0 k1 l0 a1 (x5_1 ++ [x6_1]) (wrap64 (x6_1 + 1))) else (none)) = some r := by rw [if_neg (show ¬ (false = true) by decide)] at H; exact H
     clear H
     have H := H1
     clear H1
     by_cases c8 : x5_1.length < 17592186044416
     rotate_left
     · rw [if_neg c8] at H
       exact absurd H (by simp)
     rw [if_pos c8] at H
     have LMc8 := zk c8
     clear c8
     obtain ⟨y531, hy531⟩ : ∃ y_ : List Int, y_ = (x5_1 ++ [x6_1]) := ⟨_, rfl⟩
     replace H : (spec_l3Others.l0 k1 l0 a1 y531 (wrap64 (x6_1 + 1))) = some r := by first | (rw [hy531]; with_reducible exact H) | (have H2_ := (Option.bind_some _ _).symm.trans H; rw [hy531]; with_reducible exact H2_) | (have H2_ := (Option.bind_some _ _).symm.trans H; with_reducible exact H2_) | with_reducible exact H | (rw [hy531]; exact H) | exact H
     have Ny531 := zk hy531
     clear hy531
     have H' := zk H
     clear H
     go_wp2_with (first | ((with_reducible refine gate_callee (f := 244) rfl ?_); refine zG (some 15) Try.func244 #[.slice A0 l0.length c0, .int .i64 x6_1] ?_; (with_reducible refine (spec_l1Has.calls k1 _ _ l0 x6_1 false _ ?side1 ?side2 A6.out).mono ?_); (case side1 => exact zC (Kd.C_below HR0.out HB.out)); (case side2 => exact HC0.out); rintro e w' ⟨rfl, ⟨nd, rfl⟩⟩; refine ⟨_, rfl, ?_⟩) | ((with_reducible refine gate_builtin (b := .append) (xs := #[.tmp 17, .tmp 19]) rfl ?_); at_builtin; refine Kd.R_append (Kd.int .i64) (w0 := w) w.heap.size rfl (.tmp 17) (.tmp 19) 22 3 (.int .i64 0) 8 rfl Try.underlying22 info3 rfl (by decide) (by omega) u5 x5_1 x6_1 [.int .i64 x6_1] (fun _ => True) (fun _ => False) rfl rfl ?aP (fun _ hk => hk.elim) ?aF ?aO ?aB ?aS ?aL ?_; (case aP => exact rfl); (case aB => exact (zB HB)); (case aF => exact (fun _ _ => trivial)); (case aO => exact (zR HO_5)); (case aS => exact (below_size (zB HB))); (case aL => have := LMc8.out; omega); intro v532 w9 ho hb hg hat; rw [← Ny531.out] at ho; have HO533 := zk (ho); replace HB := zk (hb); clear HO_5; clear ho hb hg hat))
     go_roundg k1
     case measure => have := HK1.out; omega
     case rel => exact ⟨(y531), (wrap64 (x6_1 + 1)), (by first | rfl | (simp; done) | (simp [*]; done)), H', ⟨by have := HK1.out; omega⟩, ⟨by (with_reducible repeat (first | apply zs | apply zr | apply zt)); exact HO533.out⟩, ⟨by repeat (first | exact HB.out | apply za | apply zd | apply ze)⟩⟩
   subst c7
   have H1 : (spec_l3Others.l0 k1 l0 a1 x5_1 (wrap64 (x6_1 + 1))) = some r := by rw [if_pos rfl] at H; exact H
   clear H
   have H := H1
   clear H1
   have H' := zk H
   clear H
   go_wp2_with (first | ((with_reducible refine gate_callee (f := 244) rfl ?_); refine zG (some 15) Try.func244 #[.slice A0 l0.length c0, .int .i64 x6_1] ?_; (with_reducible refine (spec_l1Has.calls k1 _ _ l0 x6_1 true _ ?side1 ?side2 A6.out).mono ?_); (case side1 => exact zC (Kd.C_below HR0.out HB.out)); (case side2 => exact HC0.out); rintro e w' ⟨rfl, ⟨nd, rfl⟩⟩; refine ⟨_, rfl, ?_⟩))
   go_roundg k1
   case measure => have := HK1.out; omega
   case rel => exact ⟨(x5_1), (wrap64 (x6_1 + 1)), (by first | rfl | (simp; done) | (simp [*]; done)), H', ⟨by have := HK1.out; omega⟩, ⟨by (with_reducible repeat (first | apply zs | apply zr | apply zt)); exact HO_5.out⟩, ⟨by repeat (first | exact HB.out | apply za | apply zd | apply ze)⟩⟩

end Go.Proofs.Ytlkddcabjcejdaa.MFnContained
