/- Functions that FnAvoiding comes to, a walk for each: by wip/tools/mk.py and post.py. No condition. -/
import Derived.Test.YtlkddcabjcejdaaMFnAvoidingx0
import Derived.Test.YtlkddcabjcejdaaMFnAvoidingx4
namespace Go.Proofs.Ytlkddcabjcejdaa.MFnAvoiding
open Go.RowKit Go.Proofs.YtlkddcabjcejdaaW.PrintWords Go.Proofs.YtlkddcabjcejdaaW.PrintLast Go.Proofs.YtlkddcabjcejdaaW.PrintMore
attribute [local go_sem] max2_int min2_int max_two min_two max_three min_three max_four min_four
set_option linter.unusedVariables false
set_option linter.unusedSimpArgs false

/-! ### impl_firstPlaces: function 149 -/
section
open Go.Proofs.Ytlkddcabjcejdaa.Base
set_option maxHeartbeats 8000000 in
set_option maxRecDepth 100000 in
theorem choose_add_fp {σ : Type} (f : σ → List Int → σ × Bool) (I : σ → World → Prop) (S : Nat → Prop) (c1_ c2_ c3_ c4_ : Value) (n many bS gm gw gn ga : Nat)
 (hI : ∀ s W W', I s W → Below W.heap.size W W' → I s W')
 (hcb : ∀ s W A c xs, I s W → bS ≤ W.heap.size → Kd.R (Kd.int .i64) 3 W bS (fun k => ¬ S k) (.slice A xs.length c) xs → xs.length = many → (∀ x ∈ xs, 0 ≤ x ∧ x < (n : Int)) → Calls Try.prog 246 #[.slice A xs.length c, c1_, c2_, c3_, c4_] W fun e w' => e = .returned (.bool (f s xs).2) ∧ I (f s xs).1 w' ∧ Fr S W w')
 (hSlt : ∀ k, S k → k < bS) (hs1 : ¬ S gm) (hs2 : ¬ S gw) (hs3 : ¬ S gn) (hs4 : ¬ S ga) (hn : n < 1073741824) :
 ∀ (r : Nat) (A : Option Addr) (c : Nat) (xs : List Int) (s : σ) (W : World), xs.length + r ≤ n → (∀ x ∈ xs, 0 ≤ x ∧ x < (n : Int)) → I s W → bS ≤ W.heap.size →
  Ch 3 27 39 W gm gw gn ga (.int .i64 (many : Int)) (.func (.func 246) #[] #[c1_, c2_, c3_, c4_]) (.int .i64 (n : Int)) (.func (.func 247) #[] #[.pointer (some ⟨gm, 0, none⟩), .pointer (some ⟨gw, 0, none⟩), .pointer (some ⟨gn, 0, none⟩), .pointer (some ⟨ga, 0, none⟩)]) →
  Kd.R (Kd.int .i64) 3 W bS (fun k => ¬ S k) (.slice A xs.length c) xs →
  Calls Try.prog 247 #[.slice A xs.length c, .int .i64 ((n - r : Nat) : Int), .pointer (some ⟨gm, 0, none⟩), .pointer (some ⟨gw, 0, none⟩), .pointer (some ⟨gn, 0, none⟩), .pointer (some ⟨ga, 0, none⟩)] W fun e w' => e = .returned (.bool (addG f n many r xs s).2) ∧ I (addG f n many r xs s).1 w' ∧ Fr S W w' := by
 have HII := zk hI
 have HCB := zk hcb
 clear hI hcb
 intro r
 induction r using Nat.strongRecOn with
 | ind r IH =>
  have HIH := zk IH
  clear IH
  intro A c xs s W hxr hxq hIs hbs hch hr
  have HCh0 := zk hch
  have HR0 := zk hr
  have HXQ := zk hxq
  clear hxq
  have HI0 := zk hIs
  clear hch hr hIs
  have cM := cell_of_one HCh0.out.hm
  have cW := cell_of_one HCh0.out.hw
  by_cases hm : xs.length = many
  · have hmb : ((xs.length : Int) == (many : Int)) = true := by simp [hm]
    have ea : addG f n many r xs s = f s xs := by unfold addG; rw [if_pos hm]
    rw [ea]
    have HM := zk hm
    clear hm ea
    go_enter Try.func247, Try.ntmps247
    go_wp2_with (go_at_call 246; refine (HCB.out s W A c xs HI0.out hbs HR0.out HM.out HXQ.out).mono ?_; rintro e_ w2 ⟨rfl, h1, h2⟩; have HX := zk (And.intro h1 h2); clear h1 h2)
    go_ret
    exact ⟨rfl, HX.out⟩
  · have hmb : ((xs.length : Int) == (many : Int)) = false := by simp; omega
    have ea : addG f n many r xs s = loopG f n many r xs s := by unfold addG; rw [if_neg hm]
    rw [ea]
    clear cW
    obtain ⟨R, hR⟩ : ∃ R, loopG f n many r xs s = R := ⟨_, rfl⟩
    rw [hR]
    have HP := zk hR
    clear hR ea
    go_enter Try.func247, Try.ntmps247
    go_wp2
    go_loopg [9] r (fun kq v9 wr => ∃ (r1 : Nat) (s1 : σ), v9 = .int .i64 ((n - r1 : Nat) : Int) ∧ kq = r1 ∧ r1 ≤ r ∧ Aside0 (loopG f n many r1 xs s1 = R) ∧ Aside0 (I s1 wr) ∧ Aside0 (Fr S W wr))
    case atStart => exact ⟨r, s, rfl, rfl, Nat.le_refl _, HP, HI0, ⟨Fr.refl _ _⟩⟩
    case round =>
     clear HP HI0 cM
     obtain ⟨r1, s1, rfl, hkq, hrr, HP, HI, HF⟩ := hrel
     obtain rfl : r1 = gk := hkq.symm
     have HCh := zk (HCh0.out.fr HF.out hs1 hs2 hs3 hs4)
     have HR := zk (R_fr HR0.out HF.out)
     have cN := cell_of_one HCh.out.hn
     cases r1 with
     | zero =>
      have e := HP.out
      simp only [loopG] at e
      subst e
      go_wp2
      go_ret
      exact ⟨rfl, HI.out, HF.out⟩
     | succ r1 =>
      have hlt : ((n - (r1 + 1) : Nat) : Int) < (n : Int) := by omega
      have hltb : decide (((n - (r1 + 1) : Nat) : Int) < (n : Int)) = true := decide_eq_true hlt
      have hw64 : wrap64 (((n - (r1 + 1) : Nat) : Int) + 1) = ((n - r1 : Nat) : Int) := by unfold wrap64; omega
      have HW64 := zk hw64
      clear hw64
      go_upto_region 6 with (fail)
      have hw64 := HW64.out
      refine start_ (n := 9) (S := fun w' => w'.cell? ⟨ga, 0, none⟩ = some (Value.func (Fn.func 247) #[] #[.pointer (some ⟨gm, 0, none⟩), .pointer (some ⟨gw, 0, none⟩), .pointer (some ⟨gn, 0, none⟩), .pointer (some ⟨ga, 0, none⟩)])) (ds := []) #[false, false, false, false, false, false, false, false, false] (by kernel_rfl) rfl rfl (cell_of_one HCh.out.ha) (fun hHeld => ?_)
      have HR := zk (zt HR.out)
      have HCh := zk (HCh.out.fr (S := S) (Fr.of_below (below_drew (Below.refl _ _))) hs1 hs2 hs3 hs4)
      replace HF := zk (HF.out.trans (Fr.of_below (below_drew (Below.refl _ _))))
      replace HI := zk (HII.out _ _ _ HI.out (below_drew (Below.refl _ _)))
      generalize World.drew _ = w1 at HF HI HR HCh hHeld ⊢
      have HB := zk (Below.refl w1.heap.size w1)
      refine zP (i := 1) (N := some 24) #[false, true, false, false, false, false, false, false, false] ?_
      refine zP (i := 3) (N := some 26) #[false, true, false, true, false, false, false, false, false] ?_
      refine zP (i := 6) (N := some 29) #[false, true, false, true, false, false, true, false, false] ?_
      refine zP (i := 7) (N := some 30) #[false, true, false, true, false, false, true, true, false] ?_
      refine take_ (i := 0) (N := some 23) (v := ?_) (a' := ?_) #[true, true, false, true, false, false, true, true, false] rfl rfl (by kernel_rfl) (fun _ _ _ h => h) (Or.inl ⟨by rfl, ?_⟩) hHeld ?_ ?_
      rotate_left
      · intro w' s0
        go_simp
        with_reducible rfl
      rotate_left
      · exact zQ
      refine join_ (σ := Value × Value) 2 #[true, true, true, true, true, false, true, true, false] (fun s_ => [(25, s_.1), (27, s_.2)]) (fun s_ w' => (w'.cell? ⟨ga, 0, none⟩ = some (Value.func (Fn.func 247) #[] #[.pointer (some ⟨gm, 0, none⟩), .pointer (some ⟨gw, 0, none⟩), .pointer (some ⟨gn, 0, none⟩), .pointer (some ⟨ga, 0, none⟩)])) ∧ Aside0 (Below w1.heap.size w1 w') ∧ Aside0 (Kd.R (Kd.int .i64) 3 w' w1.heap.size (fun _ => True) s_.1 xs) ∧ Aside0 (Kd.R (Kd.int .i64) 3 w' w1.heap.size (fun _ => True) s_.2 [((n - (r1 + 1) : Nat) : Int)])) ?_ ?_
      rotate_left
      · intro hCont
        refine two_ (i := 2) (j := 4) (Ni := some 25) (Nj := some 27) #[true, true, true, true, false, false, true, true, false] #[true, true, false, true, true, false, true, true, false] rfl rfl rfl rfl (by kernel_rfl) (by decide) (by decide) (fun K hK => ?_) (fun K hK => ?_)
        · skip
          refine goes_ Try.func248 (by kernel_rfl) rfl #[.slice A xs.length c] (by rfl) rfl rfl (by simp only [List.map_toArray, List.map_cons, List.map_nil]; rfl) ?_
          with_reducible refine (slices_Clone_int_int.calls A c xs xs _ (Kd.R_reads' (Kd.R_below HR.out HB.out)).2.2 (Kd.R_reads' HR.out).2.1 (by unfold slices_Clone_int_int.f; rw [if_pos (by omega)])).mono ?_
          rintro e_ w3 ⟨v25, rfl, hR25, hb3⟩
          have hz2 := HB.out.size
          have HR25 := zk (Kd.R_lower hR25 hz2)
          replace HB := zk (below_step HB.out hb3)
          clear hz2 hR25 hb3
          refine ⟨_, rfl, ?_⟩
          refine hK.out _ _ (cell_of_one (HCh.out.fr (Fr.of_below (S := S) HB.out) hs1 hs2 hs3 hs4).ha) (fun hHeld => ?_)
          clear hK K
          refine zM 25 ?_
          refine one_ (i := 4) (N := some 27) #[true, true, true, true, true, false, true, true, false] rfl rfl (by kernel_rfl) (by decide) (fun K hK => ?_)
          have hz4 := HB.out.size
          refine Kd.R_lit_step (Kd.int .i64) _ 3 ?hg (N := 27) ?hd (xs := ([((n - (r1 + 1) : Nat) : Int)] : List Int)) (inner := [.int .i64 ((n - (r1 + 1) : Nat) : Int)]) (ok := fun _ => True) (okp := fun _ => True) ?hr ?hp (fun _ hk => hk) trivial (Below.refl _ _) (Nat.le_refl _) (by simp) ?_; (case hd => rfl); (case hg => rfl); (case hr => first | (go_simp; done) | (go_simp; rfl)); (case hp => exact (Reps.one (show Kd.M (Kd.int .i64) _ _ _ _ [.int .i64 _] from rfl) (Reps.none _ _)))
          intro v27 w4 hL4 hb4 hg4 hn4
          have HL27 := zk (Kd.R_lower hL4 hz4)
          replace HR25 := zk (Kd.R_below HR25.out hb4)
          replace HB := zk (below_step HB.out hb4)
          clear hz4 hL4 hb4 hg4 hn4
          refine hK.out _ _ (cell_of_one (HCh.out.fr (Fr.of_below (S := S) HB.out) hs1 hs2 hs3 hs4).ha) (fun hHeld => ?_)
          clear hK K
          refine zM 27 ?_
          exact norm_ (by simp only [putAll, Act.put, List.setIfInBounds_toArray, List.set_cons_zero, List.set_cons_succ]) (hCont (v25, v27) _ ⟨hHeld, HB, HR25, HL27⟩)
        · skip
          have hz4 := HB.out.size
          refine Kd.R_lit_step (Kd.int .i64) _ 3 ?hg (N := 27) ?hd (xs := ([((n - (r1 + 1) : Nat) : Int)] : List Int)) (inner := [.int .i64 ((n - (r1 + 1) : Nat) : Int)]) (ok := fun _ => True) (okp := fun _ => True) ?hr ?hp (fun _ hk => hk) trivial (Below.refl _ _) (Nat.le_refl _) (by simp) ?_; (case hd => rfl); (case hg => rfl); (case hr => first | (go_simp; done) | (go_simp; rfl)); (case hp => exact (Reps.one (show Kd.M (Kd.int .i64) _ _ _ _ [.int .i64 _] from rfl) (Reps.none _ _)))
          intro v27 w4 hL4 hb4 hg4 hn4
          have HL27 := zk (Kd.R_lower hL4 hz4)
          replace HB := zk (below_step HB.out hb4)
          clear hz4 hL4 hb4 hg4 hn4
          refine hK.out _ _ (cell_of_one (HCh.out.fr (Fr.of_below (S := S) HB.out) hs1 hs2 hs3 hs4).ha) (fun hHeld => ?_)
          clear hK K
          refine zM 27 ?_
          refine one_ (i := 2) (N := some 25) #[true, true, true, true, true, false, true, true, false] rfl rfl (by kernel_rfl) (by decide) (fun K hK => ?_)
          refine goes_ Try.func248 (by kernel_rfl) rfl #[.slice A xs.length c] (by rfl) rfl rfl (by simp only [List.map_toArray, List.map_cons, List.map_nil]; rfl) ?_
          with_reducible refine (slices_Clone_int_int.calls A c xs xs _ (Kd.R_reads' (Kd.R_below HR.out HB.out)).2.2 (Kd.R_reads' HR.out).2.1 (by unfold slices_Clone_int_int.f; rw [if_pos (by omega)])).mono ?_
          rintro e_ w3 ⟨v25, rfl, hR25, hb3⟩
          have hz2 := HB.out.size
          have HR25 := zk (Kd.R_lower hR25 hz2)
          replace HL27 := zk (Kd.R_below HL27.out hb3)
          replace HB := zk (below_step HB.out hb3)
          clear hz2 hR25 hb3
          refine ⟨_, rfl, ?_⟩
          refine hK.out _ _ (cell_of_one (HCh.out.fr (Fr.of_below (S := S) HB.out) hs1 hs2 hs3 hs4).ha) (fun hHeld => ?_)
          clear hK K
          refine zM 25 ?_
          exact norm_ (by simp only [putAll, Act.put, List.setIfInBounds_toArray, List.set_cons_zero, List.set_cons_succ]) (hCont (v25, v27) _ ⟨hHeld, HB, HR25, HL27⟩)
      clear HB hHeld
      rintro ⟨v25, v27⟩ w6 ⟨hHeld, HB, HR25, HL27⟩
      obtain ⟨A25, c25, e25⟩ := Kd.R_slice HR25.out
      obtain ⟨A27, c27, e27⟩ := Kd.R_slice HL27.out
      simp only at e25 e27
      subst e25
      subst e27
      refine norm_ (a' := ?_) ?_ ?_
      rotate_left
      · simp only [putAll, Act.put, List.setIfInBounds_toArray, List.set_cons_zero, List.set_cons_succ]
        rfl
      refine one_ (i := 5) (N := some 28) #[true, true, true, true, true, true, true, true, false] rfl rfl (by kernel_rfl) (by decide) (fun K hK => ?_)
      refine Kd.R_append_rows_step (Kd.int .i64) (w0 := w1) w1.heap.size (by rfl) (.tmp 25) (.tmp 27) 22 3 (.int .i64 0) 8 rfl Try.underlying22 info3 rfl (by decide) (by omega) (.slice A25 xs.length c25) xs [((n - (r1 + 1) : Nat) : Int)] _ _ _ (fun _ => True) (fun _ => False) rfl rfl HR25.out (Kd.R_reads' HL27.out).2.2 (fun _ _ h => h) (fun _ h => h.elim) (fun _ _ => trivial) HB.out HB.out.size (by simp only [List.length_cons, List.length_nil]; omega) ?_
      intro v28 w7 ho7 hb7 hg7 hat7
      obtain ⟨A28, c28, e28⟩ := Kd.R_slice ho7
      subst e28
      replace HB := zk hb7
      have HR28 := zk ho7
      clear hat7 hg7 hb7 ho7 HL27 HR25
      refine hK.out _ _ (cell_of_one (HCh.out.fr (Fr.of_below (S := S) HB.out) hs1 hs2 hs3 hs4).ha) (fun hHeld => ?_)
      clear hK K
      refine zM 28 ?_
      refine one_ (i := 8) (N := some 31) #[true, true, true, true, true, true, true, true, true] rfl rfl (by kernel_rfl) (by decide) (fun K hK => ?_)
      obtain ⟨P8, hP8⟩ : ∃ p, addG f n many r1 (xs ++ [((n - (r1 + 1) : Nat) : Int)]) s1 = p := ⟨_, rfl⟩
      have hbw : bS ≤ w1.heap.size := Nat.le_trans hbs HF.out.size
      have HC7 := zk (HCh.out.fr (S := S) (Fr.of_below HB.out) hs1 hs2 hs3 hs4)
      have HR7 := zk (show Kd.R (Kd.int .i64) 3 w7 bS (fun k => ¬ S k) (.slice A28 (xs ++ [((n - (r1 + 1) : Nat) : Int)]).length c28) (xs ++ [((n - (r1 + 1) : Nat) : Int)]) from Kd.R_of_own (Kd.own_of_R (Kd.R_lower HR28.out hbw)) (fun k hk hs => by have := Kd.R_base HR28.out k hk; have := hSlt k hs; omega))
      have H8 := HIH.out r1 (by omega) A28 c28 (xs ++ [((n - (r1 + 1) : Nat) : Int)]) s1 w7 (by simp; omega) (fun x hx => by rcases List.mem_append.1 hx with hx | hx; exact HXQ.out x hx; (have hx := List.mem_singleton.1 hx; omega)) (HII.out _ _ _ HI.out HB.out) (Nat.le_trans hbw HB.out.size) HC7.out HR7.out
      rw [← hw64] at H8
      refine call_ 247 #[.slice A28 (xs ++ [((n - (r1 + 1) : Nat) : Int)]).length c28, .int .i64 (wrap64 (((n - (r1 + 1) : Nat) : Int) + 1)), .pointer (some ⟨gm, 0, none⟩), .pointer (some ⟨gw, 0, none⟩), .pointer (some ⟨gn, 0, none⟩), .pointer (some ⟨ga, 0, none⟩)] (by rfl) rfl ?hrun8 ?_; (case hrun8 => clear H8; go_simp; (try rfl); trace_state)
      with_reducible refine H8.mono ?_
      rintro e8 w8 ⟨he8, hI8, hF8⟩
      rw [hP8] at he8 hI8
      subst he8
      obtain ⟨s8, b8⟩ := P8
      simp only at hI8
      have HX := zk (And.intro hI8 hF8)
      have HC8 := zk (HC7.out.fr hF8 hs1 hs2 hs3 hs4)
      have HP8 := zk hP8
      clear hI8 hF8 H8 hP8
      refine ⟨_, rfl, ?_⟩
      refine hK.out _ _ (cell_of_one HC8.out.ha) (fun hHeld => ?_)
      clear hK K
      refine zM 31 ?_
      refine done_ (by kernel_rfl) ?_
      have e := HP.out
      rw [loopG_succ, HP8.out] at e
      have HFF := zk (HF.out.trans ((Fr.of_below HB.out).trans HX.out.2))
      have HI8 := zk HX.out.1
      cases b8 with
      | true =>
       simp only [if_true] at e
       subst e
       try go_wp2
       go_ret
       exact ⟨rfl, HI8.out, HFF.out⟩
      | false =>
       simp only [Bool.false_eq_true, if_false] at e
       have HE := zk e
       clear e
       try go_wp2
       go_roundg r1
       case measure => omega
       case rel => exact ⟨r1, s8, by simp [hw64]; omega, rfl, by omega, HE, HI8, HFF⟩
set_option maxHeartbeats 8000000 in
set_option maxRecDepth 100000 in
theorem choose_calls_fp {σ : Type} (f : σ → List Int → σ × Bool) (I : σ → World → Prop) (S : Nat → Prop) (c1_ c2_ c3_ c4_ : Value) (n many : Nat) (s : σ) (w : World)
 (hI : ∀ s W W', I s W → Below W.heap.size W W' → I s W')
 (hcb : ∀ s W A c xs, I s W → w.heap.size ≤ W.heap.size → Kd.R (Kd.int .i64) 3 W w.heap.size (fun k => ¬ S k) (.slice A xs.length c) xs → xs.length = many → (∀ x ∈ xs, 0 ≤ x ∧ x < (n : Int)) → Calls Try.prog 246 #[.slice A xs.length c, c1_, c2_, c3_, c4_] W fun e w' => e = .returned (.bool (f s xs).2) ∧ I (f s xs).1 w' ∧ Fr S W w')
 (hSlt : ∀ k, S k → k < w.heap.size) (hn : n < 1073741824) (hs : I s w) :
 Calls Try.prog 159 #[.int .i64 (n : Int), .int .i64 (many : Int), .func (.func 246) #[] #[c1_, c2_, c3_, c4_]] w fun e w' => e = .returned (.tuple #[]) ∧ I (addG f n many n [] s).1 w' ∧ Fr S w w' := by
 have hmf : ∀ (fn : Fn) (first cap : Array Value) (w : World), (Instr.makeFunc fn first cap).run Try.prog w = .ok (.func fn first cap) w := fun _ _ _ _ => rfl
 have HII := zk hI
 have HCB := zk hcb
 have HS := zk hSlt
 have HI := zk hs
 clear hI hcb hSlt hs
 have z1 : ∀ (W : World) (o : Obj), (W.alloc o).heap.size = W.heap.size + 1 := fun W o => by simp
 have hga : ((((w.alloc (Obj.cells #[Value.int IntKind.i64 ↑n]  3)).alloc (Obj.cells #[Value.int IntKind.i64 ↑many]  3)).alloc (Obj.cells #[Value.func (Fn.func 246) #[] #[c1_, c2_, c3_, c4_]] 27)).alloc (Obj.cells #[Value.nilFunc] 39)).heap[w.heap.size + 1 + 1 + 1]? = some (.cells #[Value.nilFunc] 39 (0, 0)) := by
  have := blk_new (((w.alloc (Obj.cells #[Value.int IntKind.i64 ↑n]  3)).alloc (Obj.cells #[Value.int IntKind.i64 ↑many]  3)).alloc (Obj.cells #[Value.func (Fn.func 246) #[] #[c1_, c2_, c3_, c4_]] 27)) (Obj.cells #[Value.nilFunc] 39)
  rwa [z1, z1, z1] at this
 have zc := cell_of_one hga
 have zf := free_of_one hga
 clear hga
 have hst : ∀ (fn : Fn) (x y : Array Value) (a : Addr) (W : World), (store a (.func fn x y)).run Try.prog W = stored Try.prog W a (.func fn x y) .plain := fun fn x y a W => run_store Try.prog W a _ .plain rfl
 have hbel : Below w.heap.size w (((((w.alloc (Obj.cells #[Value.int IntKind.i64 ↑n]  3)).alloc (Obj.cells #[Value.int IntKind.i64 ↑many]  3)).alloc (Obj.cells #[Value.func (Fn.func 246) #[] #[c1_, c2_, c3_, c4_]] 27)).alloc (Obj.cells #[(Value.func (Fn.func 247) #[] #[Value.pointer (some { block := w.heap.size + 1, off := 0 }), Value.pointer (some { block := w.heap.size + 1 + 1, off := 0 }), Value.pointer (some { block := w.heap.size, off := 0 }), Value.pointer (some { block := w.heap.size + 1 + 1 + 1, off := 0 })])] 39)).alloc (Obj.cells #[]  3)) := za (za (za (za (za (Below.refl _ _) _) _) _) _) _
 have hch : Ch 3 27 39 (((((w.alloc (Obj.cells #[Value.int IntKind.i64 ↑n]  3)).alloc (Obj.cells #[Value.int IntKind.i64 ↑many]  3)).alloc (Obj.cells #[Value.func (Fn.func 246) #[] #[c1_, c2_, c3_, c4_]] 27)).alloc (Obj.cells #[(Value.func (Fn.func 247) #[] #[Value.pointer (some { block := w.heap.size + 1, off := 0 }), Value.pointer (some { block := w.heap.size + 1 + 1, off := 0 }), Value.pointer (some { block := w.heap.size, off := 0 }), Value.pointer (some { block := w.heap.size + 1 + 1 + 1, off := 0 })])] 39)).alloc (Obj.cells #[]  3)) (w.heap.size + 1) (w.heap.size + 1 + 1) w.heap.size (w.heap.size + 1 + 1 + 1) (.int .i64 (many : Int)) (.func (.func 246) #[] #[c1_, c2_, c3_, c4_]) (.int .i64 (n : Int)) (Value.func (Fn.func 247) #[] #[Value.pointer (some { block := w.heap.size + 1, off := 0 }), Value.pointer (some { block := w.heap.size + 1 + 1, off := 0 }), Value.pointer (some { block := w.heap.size, off := 0 }), Value.pointer (some { block := w.heap.size + 1 + 1 + 1, off := 0 })]) := by
  refine ⟨?_, ?_, ?_, ?_⟩
  · exact blk_alloc (blk_alloc (blk_alloc (by have := blk_new (w.alloc (Obj.cells #[Value.int IntKind.i64 ↑n]  3)) (Obj.cells #[Value.int IntKind.i64 ↑many]  3); rwa [z1] at this) _) _) _
  · exact blk_alloc (blk_alloc (by have := blk_new ((w.alloc (Obj.cells #[Value.int IntKind.i64 ↑n]  3)).alloc (Obj.cells #[Value.int IntKind.i64 ↑many]  3)) (Obj.cells #[Value.func (Fn.func 246) #[] #[c1_, c2_, c3_, c4_]] 27); rwa [z1, z1] at this) _) _
  · exact blk_alloc (blk_alloc (blk_alloc (blk_alloc (blk_new w (Obj.cells #[Value.int IntKind.i64 ↑n]  3)) _) _) _) _
  · exact blk_alloc (by have := blk_new (((w.alloc (Obj.cells #[Value.int IntKind.i64 ↑n]  3)).alloc (Obj.cells #[Value.int IntKind.i64 ↑many]  3)).alloc (Obj.cells #[Value.func (Fn.func 246) #[] #[c1_, c2_, c3_, c4_]] 27)) (Obj.cells #[(Value.func (Fn.func 247) #[] #[Value.pointer (some { block := w.heap.size + 1, off := 0 }), Value.pointer (some { block := w.heap.size + 1 + 1, off := 0 }), Value.pointer (some { block := w.heap.size, off := 0 }), Value.pointer (some { block := w.heap.size + 1 + 1 + 1, off := 0 })])] 39); rwa [z1, z1, z1] at this) _
 have hrow : Kd.R (Kd.int .i64) 3 (((((w.alloc (Obj.cells #[Value.int IntKind.i64 ↑n]  3)).alloc (Obj.cells #[Value.int IntKind.i64 ↑many]  3)).alloc (Obj.cells #[Value.func (Fn.func 246) #[] #[c1_, c2_, c3_, c4_]] 27)).alloc (Obj.cells #[(Value.func (Fn.func 247) #[] #[Value.pointer (some { block := w.heap.size + 1, off := 0 }), Value.pointer (some { block := w.heap.size + 1 + 1, off := 0 }), Value.pointer (some { block := w.heap.size, off := 0 }), Value.pointer (some { block := w.heap.size + 1 + 1 + 1, off := 0 })])] 39)).alloc (Obj.cells #[]  3)) w.heap.size (fun k => ¬ S k) (.slice (some { block := w.heap.size + 1 + 1 + 1 + 1, off := 0 }) ([] : List Int).length 0) [] :=
  Kd.R_of_own ⟨rfl, Or.inr ⟨w.heap.size + 1 + 1 + 1 + 1, 0, #[], rfl, by omega, by have := blk_new ((((w.alloc (Obj.cells #[Value.int IntKind.i64 ↑n]  3)).alloc (Obj.cells #[Value.int IntKind.i64 ↑many]  3)).alloc (Obj.cells #[Value.func (Fn.func 246) #[] #[c1_, c2_, c3_, c4_]] 27)).alloc (Obj.cells #[(Value.func (Fn.func 247) #[] #[Value.pointer (some { block := w.heap.size + 1, off := 0 }), Value.pointer (some { block := w.heap.size + 1 + 1, off := 0 }), Value.pointer (some { block := w.heap.size, off := 0 }), Value.pointer (some { block := w.heap.size + 1 + 1 + 1, off := 0 })])] 39)) (Obj.cells #[]  3); rwa [z1, z1, z1, z1] at this, Nat.le_refl _, Nat.zero_le _, rfl, rfl⟩⟩ (fun k hk hs => by
   have h1 := HS.out k hs
   have h2 : w.heap.size + 1 + 1 + 1 + 1 = k := by simpa [Value.ownBlock] using hk
   omega)
 have H := choose_add_fp f I S c1_ c2_ c3_ c4_ n many w.heap.size (w.heap.size + 1) (w.heap.size + 1 + 1) w.heap.size (w.heap.size + 1 + 1 + 1) HII.out HCB.out HS.out (fun h => by have := HS.out _ h; omega) (fun h => by have := HS.out _ h; omega) (fun h => by have := HS.out _ h; omega) (fun h => by have := HS.out _ h; omega) hn n (some { block := w.heap.size + 1 + 1 + 1 + 1, off := 0 }) 0 [] s (((((w.alloc (Obj.cells #[Value.int IntKind.i64 ↑n]  3)).alloc (Obj.cells #[Value.int IntKind.i64 ↑many]  3)).alloc (Obj.cells #[Value.func (Fn.func 246) #[] #[c1_, c2_, c3_, c4_]] 27)).alloc (Obj.cells #[(Value.func (Fn.func 247) #[] #[Value.pointer (some { block := w.heap.size + 1, off := 0 }), Value.pointer (some { block := w.heap.size + 1 + 1, off := 0 }), Value.pointer (some { block := w.heap.size, off := 0 }), Value.pointer (some { block := w.heap.size + 1 + 1 + 1, off := 0 })])] 39)).alloc (Obj.cells #[]  3)) (by simp) (by simp) (HII.out _ _ _ HI.out hbel) hbel.size hch hrow
 rw [show ((n - n : Nat) : Int) = 0 by simp] at H
 have HH := zk H
 have HBel := zk hbel
 clear H hrow hch hbel z1
 go_enter Try.func159, Try.ntmps159
 go_wp2_with (go_at_call 247; refine HH.out.mono ?_; rintro e_ w2 ⟨rfl, h1, h2⟩; have HX := zk (And.intro h1 h2); clear h1 h2)
 go_end0
 exact ⟨rfl, HX.out.1, (Fr.of_below HBel.out).trans HX.out.2⟩
/-- firstPlaces' captured variables: the two lists', whether one is found, and the places. -/
structure Fp (tL tI tB : TypeId) (w0 W : World) (gl gp gf go : Nat) (v0 v1 : Value) (s : List Int × Bool) : Prop where
 hl : W.heap[gl]? = some (.cells #[v0] tL (0, 0))
 hp : W.heap[gp]? = some (.cells #[v1] tL (0, 0))
 hf : W.heap[gf]? = some (.cells #[.bool s.2] tB (0, 0))
 ho : ∃ v, W.heap[go]? = some (.cells #[v] tL (0, 0)) ∧ Kd.R (Kd.int .i64) tI W w0.heap.size (fun k => ¬ (k = gf ∨ k = go)) v s.1
 hb : Below w0.heap.size w0 W
 gf_ : w0.heap.size ≤ gf
 go_ : w0.heap.size ≤ go
 n1 : tL ≠ tB
 n2 : gl ≠ go
 n3 : gp ≠ go
theorem Fp.below {tL tI tB : TypeId} {w0 W W' : World} {gl gp gf go : Nat} {v0 v1 : Value} {s : List Int × Bool} (h : Fp tL tI tB w0 W gl gp gf go v0 v1 s) (hb : Below W.heap.size W W') : Fp tL tI tB w0 W' gl gp gf go v0 v1 s := by
 obtain ⟨v, h1, h2⟩ := h.ho
 exact ⟨blk_below h.hl hb, blk_below h.hp hb, blk_below h.hf hb, ⟨v, blk_below h1 hb, Kd.R_below h2 hb⟩, below_step h.hb hb, h.gf_, h.go_, h.n1, h.n2, h.n3⟩
theorem Fp.putF {tL tI tB : TypeId} {w0 W : World} {gl gp gf go : Nat} {v0 v1 : Value} {s : List Int × Bool} (h : Fp tL tI tB w0 W gl gp gf go v0 v1 s) (b : Bool) : Fp tL tI tB w0 (W.setCell ⟨gf, 0, none⟩ (.bool b)) gl gp gf go v0 v1 (s.1, b) := by
 obtain ⟨v, h1, h2⟩ := h.ho
 exact ⟨blk_far h.hl (blk_ne h.hl h.hf h.n1) _, blk_far h.hp (blk_ne h.hp h.hf h.n1) _, one_setCell h.hf, ⟨v, blk_far h1 (blk_ne h1 h.hf h.n1) _, Kd.R_far h2 (fun k hk e => hk (.inl e)) _⟩, h.hb.setCell h.gf_ _, h.gf_, h.go_, h.n1, h.n2, h.n3⟩
theorem Fp.putO {tL tI tB : TypeId} {w0 W : World} {gl gp gf go : Nat} {v0 v1 : Value} {s : List Int × Bool} (h : Fp tL tI tB w0 W gl gp gf go v0 v1 s) (u : Value) (xs : List Int) (hr : Kd.R (Kd.int .i64) tI W w0.heap.size (fun k => ¬ (k = gf ∨ k = go)) u xs) : Fp tL tI tB w0 (W.setCell ⟨go, 0, none⟩ u) gl gp gf go v0 v1 (xs, s.2) := by
 obtain ⟨v, h1, h2⟩ := h.ho
 exact ⟨blk_far h.hl h.n2 _, blk_far h.hp h.n3 _, blk_far h.hf (fun e => h.n1 (by have := blk_ne h1 h.hf h.n1; exact absurd e.symm this)) _, ⟨u, one_setCell h1, Kd.R_far hr (fun k hk e => hk (.inr e)) _⟩, h.hb.setCell h.go_ _, h.gf_, h.go_, h.n1, h.n2, h.n3⟩
set_option maxHeartbeats 8000000 in
set_option maxRecDepth 100000 in
theorem firstPlaces_cb (l p : List Int) (A0 A1 : Option Addr) (c0 c1 : Nat) (w0 : World) (gl gp gf go : Nat) (atl shp : List Int → List Int) (many : Nat)
 (hl0 : Kd.C (Kd.int .i64) w0 A0 l.length l) (hc0 : l.length ≤ c0) (hp0 : Kd.C (Kd.int .i64) w0 A1 p.length p) (hc1 : p.length ≤ c1)
 (hres : ∀ xs : List Int, xs.length = many → (∀ x ∈ xs, 0 ≤ x ∧ x < (l.length : Int)) → ∃ k1 k2 k3, impl_at.f k1 l xs = some (atl xs) ∧ impl_shape.f k2 (atl xs) = some (shp xs) ∧ slices_Equal_int_int.f k3 (shp xs) p = some (decide (shp xs = p))) :
 ∀ (s : List Int × Bool) (W : World) (bS : Nat) (A : Option Addr) (c : Nat) (xs : List Int), w0.heap.size ≤ bS → Fp 22 3 4 w0 W gl gp gf go (.slice A0 l.length c0) (.slice A1 p.length c1) s → Kd.R (Kd.int .i64) 3 W bS (fun k => ¬ (k = gf ∨ k = go)) (.slice A xs.length c) xs → xs.length = many → (∀ x ∈ xs, 0 ≤ x ∧ x < (l.length : Int)) →
  Calls Try.prog 246 #[.slice A xs.length c, .pointer (some ⟨gl, 0, none⟩), .pointer (some ⟨gp, 0, none⟩), .pointer (some ⟨gf, 0, none⟩), .pointer (some ⟨go, 0, none⟩)] W fun e w' => e = .returned (.bool (decide (shp xs = p))) ∧ Fp 22 3 4 w0 w' gl gp gf go (.slice A0 l.length c0) (.slice A1 p.length c1) (xs, decide (shp xs = p)) ∧ Fr (fun k => k = gf ∨ k = go) W w' := by
 intro s W bS A c xs hbS hC hR hx hq
 obtain ⟨k1, k2, k3, h1, h2, h3⟩ := hres xs hx hq
 obtain ⟨b, hb⟩ : ∃ b, decide (shp xs = p) = b := ⟨_, rfl⟩
 rw [hb] at h3 ⊢
 replace h1 := zk h1
 replace h2 := zk h2
 replace h3 := zk h3
 have HC := zk hC
 have HR := zk hR
 have HL0 := zk hl0
 have HP0 := zk hp0
 clear hC hR hx hq hres hl0 hp0 hb
 go_enter Try.func246, Try.ntmps246
 go_wp2_with (fail)
 refine start_ (n := 7) (S := fun w' => w'.cell? ⟨gl, 0, none⟩ = some (.slice A0 l.length c0) ∧ w'.cell? ⟨gp, 0, none⟩ = some (.slice A1 p.length c1)) (ds := [6]) #[false, false, false, false, false, false, false] (by kernel_rfl) rfl rfl ⟨cell_of_one HC.out.hl, cell_of_one HC.out.hp⟩ (fun hHeld => ?_)
 replace HC := zk (HC.out.below (below_drew (Below.refl _ _)))
 replace HR := zk (zt HR.out)
 have HF := zk (Fr.of_below (S := fun k => k = gf ∨ k = go) (below_drew (Below.refl W.heap.size W)))
 generalize W.drew = w1 at HC HR HF hHeld ⊢
 have HB := zk (Below.refl w1.heap.size w1)
 refine zP (i := 1) (N := some 8) #[false, true, false, false, false, false, false] ?_
 refine take_ (i := 0) (N := some 7) (v := ?_) (a' := ?_) #[true, true, false, false, false, false, false] rfl rfl (by kernel_rfl) (fun _ _ _ h => h) (Or.inl ⟨by rfl, ?_⟩) hHeld ?_ ?_
 rotate_left
 · rintro w' ⟨s0, s1⟩
   go_simp
   with_reducible rfl
 rotate_left
 · exact zQ
 refine take_ (i := 4) (N := some 11) (v := ?_) (a' := ?_) #[true, true, false, false, true, false, false] rfl rfl (by kernel_rfl) (fun _ _ _ h => h) (Or.inl ⟨by rfl, ?_⟩) hHeld ?_ ?_
 rotate_left
 · rintro w' ⟨s0, s1⟩
   go_simp
   with_reducible rfl
 rotate_left
 · exact zQ
 refine one_ (i := 2) (N := some 9) #[true, true, true, false, true, false, false] rfl rfl (by kernel_rfl) (by decide) (fun K hK => ?_)
 refine goes_ Try.func162 (by kernel_rfl) rfl #[.slice A0 l.length c0, .slice A xs.length c] (by rfl) rfl rfl (by simp only [List.map_toArray, List.map_cons, List.map_nil]; rfl) ?_
 with_reducible refine (impl_at.calls k1 A0 c0 l A c xs _ _ (Kd.C_below HL0.out HC.out.hb) hc0 (Kd.R_reads' HR.out).2.2 (Kd.R_reads' HR.out).2.1 h1.out).mono ?_
 rintro e_ w2 ⟨v8, rfl, hR8, hb2⟩
 replace HB := zk (below_step HB.out hb2)
 obtain ⟨A8, c8, e8⟩ := Kd.R_slice hR8
 subst e8
 have HR8 := zk hR8
 clear hR8 hb2
 refine ⟨_, rfl, ?_⟩
 refine hK.out _ _ ⟨cell_of_one (blk_below HC.out.hl HB.out), cell_of_one (blk_below HC.out.hp HB.out)⟩ (fun hHeld => ?_)
 clear hK K
 refine zM 9 ?_
 refine one_ (i := 3) (N := some 10) #[true, true, true, true, true, false, false] rfl rfl (by kernel_rfl) (by decide) (fun K hK => ?_)
 refine goes_ Try.func161 (by kernel_rfl) rfl #[.slice A8 (atl xs).length c8] (by rfl) rfl rfl (by simp only [List.map_toArray, List.map_cons, List.map_nil]; rfl) ?_
 with_reducible refine (impl_shape.calls k2 A8 c8 (atl xs) _ _ (Kd.R_reads' HR8.out).2.2 (Kd.R_reads' HR8.out).2.1 h2.out).mono ?_
 rintro e_ w3 ⟨v9, rfl, hR9, hb3⟩
 replace HB := zk (below_step HB.out hb3)
 obtain ⟨A9, c9, e9⟩ := Kd.R_slice hR9
 subst e9
 have HR9 := zk hR9
 clear hR9 hb3
 refine ⟨_, rfl, ?_⟩
 refine hK.out _ _ ⟨cell_of_one (blk_below HC.out.hl HB.out), cell_of_one (blk_below HC.out.hp HB.out)⟩ (fun hHeld => ?_)
 clear hK K
 refine zM 10 ?_
 refine one_ (i := 5) (N := some 12) #[true, true, true, true, true, true, false] rfl rfl (by kernel_rfl) (by decide) (fun K hK => ?_)
 refine goes_ Try.func177 (by kernel_rfl) rfl #[.slice A9 (shp xs).length c9, .slice A1 p.length c1] (by rfl) rfl rfl (by simp only [List.map_toArray, List.map_cons, List.map_nil]; rfl) ?_
 with_reducible refine (slices_Equal_int_int.calls k3 A9 c9 (shp xs) A1 c1 p _ _ (Kd.R_reads' HR9.out).2.2 (Kd.R_reads' HR9.out).2.1 (Kd.C_below HP0.out (HC.out.hb.trans (Go.Proofs.Ytlkddcabjcejdaa.Base.below_below HB.out HC.out.hb.size))) hc1 h3.out).mono ?_
 rintro e_ w4 ⟨rfl, q4, rfl⟩
 refine ⟨_, rfl, ?_⟩
 refine hK.out _ _ ⟨by first | exact hHeld.1 | exact cell_of_one (blk_drewN (blk_below HC.out.hl HB.out) _), by first | exact hHeld.2 | exact cell_of_one (blk_drewN (blk_below HC.out.hp HB.out) _)⟩ (fun hHeld => ?_)
 clear hK K
 refine zM 12 ?_
 refine last_ (i := 6) (N := none) #[true, true, true, true, true, true, true] rfl rfl (by kernel_rfl) (by decide) (fun K hK => ?_)
 have HB5 := zk (zd HB.out q4)
 have HC5 := zk (HC.out.below HB5.out)
 have HRP := zk (Kd.R_below HR.out HB5.out)
 generalize w3.drewN q4 = w5 at HB5 HC5 HRP hHeld ⊢
 have cf := cell_of_one HC5.out.hf
 have ff := free_of_one HC5.out.hf
 refine skip_ (w1 := ?_) (by rfl) rfl ?_ ?_
 rotate_left
 · go_simp
   rfl
 refine hK.out _ _ ?_
 clear hK K
 refine done_ (by kernel_rfl) ?_
 have HF5 := zk (HF.out.trans (Fr.of_below HB5.out))
 have HF6 := zk (HF5.out.trans (Fr.set (S := fun k => k = gf ∨ k = go) (W := w5) (g := gf) (.inl rfl) 0 (.bool b)))
 have HC6 := zk (HC5.out.putF b)
 have HR6 := zk (Kd.R_far HRP.out (p := ⟨gf, 0, none⟩) (fun k hk e => hk (.inl e)) (.bool b))
 clear hHeld cf ff
 generalize w5.setCell _ _ = w6 at HF6 HC6 HR6 ⊢
 obtain ⟨vo, ho, hRo⟩ := HC6.out.ho
 have co := cell_of_one ho
 have fo := free_of_one ho
 have HC7 := zk (HC6.out.putO (.slice A xs.length c) xs (Kd.R_lower HR6.out hbS))
 have cf := cell_of_one HC7.out.hf
 have HRo := zk hRo
 clear hRo ho
 go_wp2
 go_ret
 exact ⟨rfl, HC7.out, HF6.out.trans (Fr.set (S := fun k => k = gf ∨ k = go) (.inr rfl) _ _)⟩
def fpF (l p : List Int) (s : List Int × Bool) (xs : List Int) : (List Int × Bool) × Bool := ((xs, decide (Go.Proofs.Ytlkddcabjcejdaa.Base.shapeL (atG l xs) = p)), decide (Go.Proofs.Ytlkddcabjcejdaa.Base.shapeL (atG l xs) = p))
def fpG (l p : List Int) : List Int × Bool := (addG (fpF l p) l.length p.length l.length [] ([], false)).1
def fpR (l p : List Int) : List Int × Bool := if (fpG l p).2 = true then ((fpG l p).1, true) else ([], false)
set_option maxHeartbeats 8000000 in
set_option maxRecDepth 100000 in
theorem firstPlaces_calls (A0 : Option Addr) (c0 : Nat) (l0 : List Int) (A1 : Option Addr) (c1 : Nat) (l1 : List Int) (w : World) (hr0 : Kd.C (Kd.int .i64) w A0 l0.length l0) (hc0 : l0.length ≤ c0) (hr1 : Kd.C (Kd.int .i64) w A1 l1.length l1) (hc1 : l1.length ≤ c1) (hl : l0.length ≤ 7) (hp : l1.length ≤ 7) :
 Calls Try.prog 149 #[.slice A0 l0.length c0, .slice A1 l1.length c1] w fun e w' => ∃ v0_ : Value, e = .returned (.tuple #[v0_, .bool (fpR l0 l1).2]) ∧ Kd.R (Kd.int .i64) 3 w' w.heap.size (fun _ => True) v0_ (fpR l0 l1).1 ∧ Below w.heap.size w w' := by
 have hmf : ∀ (fn : Fn) (first cap : Array Value) (w : World), (Instr.makeFunc fn first cap).run Try.prog w = .ok (.func fn first cap) w := fun _ _ _ _ => rfl
 have z1 : ∀ (W : World) (o : Obj), (W.alloc o).heap.size = W.heap.size + 1 := fun W o => by simp
 have hc : Fp 22 3 4 w ((((w.alloc (Obj.cells #[Value.slice A0 l0.length c0] 22)).alloc (Obj.cells #[Value.slice A1 l1.length c1] 22)).alloc (Obj.cells #[Value.slice none 0 0]  22)).alloc (Obj.cells #[Value.bool false]  4)) w.heap.size (w.heap.size + 1) (w.heap.size + 1 + 1 + 1) (w.heap.size + 1 + 1) (.slice A0 l0.length c0) (.slice A1 l1.length c1) ([], false) := by
  refine ⟨?_, ?_, ?_, ⟨.slice none 0 0, ?_, Kd.R_nil _ _ _ _ _⟩, ?_, by omega, by omega, by decide, by omega, by omega⟩
  · exact blk_alloc (blk_alloc (blk_alloc (blk_new w _) _) _) _
  · exact blk_alloc (blk_alloc (by have := blk_new (w.alloc (Obj.cells #[Value.slice A0 l0.length c0] 22)) (Obj.cells #[Value.slice A1 l1.length c1] 22); rwa [z1] at this) _) _
  · have := blk_new (((w.alloc (Obj.cells #[Value.slice A0 l0.length c0] 22)).alloc (Obj.cells #[Value.slice A1 l1.length c1] 22)).alloc (Obj.cells #[Value.slice none 0 0]  22)) (Obj.cells #[Value.bool false]  4)
    rwa [z1, z1, z1] at this
  · exact blk_alloc (by have := blk_new ((w.alloc (Obj.cells #[Value.slice A0 l0.length c0] 22)).alloc (Obj.cells #[Value.slice A1 l1.length c1] 22)) (Obj.cells #[Value.slice none 0 0]  22); rwa [z1, z1] at this) _
  · exact za (za (za (za (Below.refl _ _) _) _) _) _
 have hz : ((((w.alloc (Obj.cells #[Value.slice A0 l0.length c0] 22)).alloc (Obj.cells #[Value.slice A1 l1.length c1] 22)).alloc (Obj.cells #[Value.slice none 0 0]  22)).alloc (Obj.cells #[Value.bool false]  4)).heap.size = w.heap.size + 1 + 1 + 1 + 1 := by rw [z1, z1, z1, z1]
 have H := choose_calls_fp (fpF l0 l1) (fun s W => Fp 22 3 4 w W w.heap.size (w.heap.size + 1) (w.heap.size + 1 + 1 + 1) (w.heap.size + 1 + 1) (.slice A0 l0.length c0) (.slice A1 l1.length c1) s) (fun k => k = w.heap.size + 1 + 1 + 1 ∨ k = w.heap.size + 1 + 1) (.pointer (some ⟨w.heap.size, 0, none⟩)) (.pointer (some ⟨w.heap.size + 1, 0, none⟩)) (.pointer (some ⟨w.heap.size + 1 + 1 + 1, 0, none⟩)) (.pointer (some ⟨w.heap.size + 1 + 1, 0, none⟩)) l0.length l1.length ([], false) _ (fun s W W' h hb => h.below hb)
  (fun s W A c xs hI hsz hR hx hq => by
   refine (firstPlaces_cb l0 l1 A0 A1 c0 c1 w w.heap.size (w.heap.size + 1) (w.heap.size + 1 + 1 + 1) (w.heap.size + 1 + 1) (atG l0) (fun xs => Go.Proofs.Ytlkddcabjcejdaa.Base.shapeL (atG l0 xs)) l1.length hr0 hc0 hr1 hc1 (cp_res l0 l1 hp) s W _ A c xs (by rw [hz]; omega) hI hR hx hq).mono ?_
   rintro e w' ⟨rfl, h1, h2⟩
   exact ⟨rfl, h1, h2⟩) (fun k hk => by rw [hz]; rcases hk with hk | hk <;> omega) (by omega) hc
 have HC := zk hc
 obtain ⟨R, hR⟩ : ∃ R, fpG l0 l1 = R := ⟨_, rfl⟩
 have hRR := hR
 unfold fpG at hRR
 rw [hRR] at H
 unfold fpR
 rw [hR]
 have HH := zk H
 obtain ⟨o, b⟩ := R
 clear H hc hz z1 hr0 hr1 hR hRR
 cases b with
 | true =>
  go_enter Try.func149, Try.ntmps149
  go_wp2_with (go_at_call 159; refine HH.out.mono ?_; rintro e_ w2 ⟨rfl, h1, h2⟩; obtain ⟨v_, ho_, hr_⟩ := h1.ho; have c12 := cell_of_one h1.hf; have c13 := cell_of_one ho_; have HX := zk h1; have HY := zk hr_; clear h1 h2 ho_ hr_)
  go_ret2
  exact ⟨_, rfl, Kd.R_mono HY.out (fun _ _ => trivial), HX.out.hb⟩
 | false =>
  go_enter Try.func149, Try.ntmps149
  go_wp2_with (go_at_call 159; refine HH.out.mono ?_; rintro e_ w2 ⟨rfl, h1, h2⟩; have c12 := cell_of_one h1.hf; have HX := zk h1; clear h1 h2)
  go_ret2
  exact ⟨_, rfl, Kd.R_nil _ _ _ _ _, HX.out.hb⟩
def impl_firstPlaces.f (l0 : List Int) (l1 : List Int) : Option (List Int × Bool) := if l0.length ≤ 7 ∧ l1.length ≤ 7 then some (fpR l0 l1) else none
theorem impl_firstPlaces.calls (A0 : Option Addr) (c0 : Nat) (l0 : List Int) (A1 : Option Addr) (c1 : Nat) (l1 : List Int) (r1 : List Int) (r2 : Bool) (w : World) (hr0 : Kd.C (Kd.int .i64) w A0 l0.length l0) (hc0 : l0.length ≤ c0) (hr1 : Kd.C (Kd.int .i64) w A1 l1.length l1) (hc1 : l1.length ≤ c1) (h : impl_firstPlaces.f l0 l1 = some (r1, r2)) :
 Calls Try.prog 149 #[.slice A0 l0.length c0, .slice A1 l1.length c1] w fun e w' => ∃ v0_ : Value, e = .returned (.tuple #[v0_, .bool r2]) ∧ Kd.R (Kd.int .i64) 3 w' w.heap.size (fun _ => True) v0_ r1 ∧ Below w.heap.size w w' := by
 unfold impl_firstPlaces.f at h
 by_cases hl : l0.length ≤ 7 ∧ l1.length ≤ 7
 · rw [if_pos hl] at h
   have h := Option.some.inj h
   have H := firstPlaces_calls A0 c0 l0 A1 c1 l1 w hr0 hc0 hr1 hc1 hl.1 hl.2
   rw [h] at H
   exact H
 · rw [if_neg hl] at h; cases h
end

/-! ### impl_contains: function 238 -/
def impl_contains.f (l0 : List Int) (l1 : List Int) : Option (Bool) := (impl_firstPlaces.f l0 l1).bind fun bt326 => (some bt326.2)
set_option maxHeartbeats 8000000 in
set_option maxRecDepth 100000 in
theorem impl_contains.calls (A0 : Option Addr) (c0 : Nat) (l0 : List Int) (A1 : Option Addr) (c1 : Nat) (l1 : List Int) (r : Bool) (w : World) (hr0 : Kd.C (Kd.int .i64) w A0 l0.length l0) (hc0 : l0.length ≤ c0) (hr1 : Kd.C (Kd.int .i64) w A1 l1.length l1) (hc1 : l1.length ≤ c1) (h : impl_contains.f l0 l1 = some r) :
 Calls Try.prog 238 #[.slice A0 l0.length c0, .slice A1 l1.length c1] w fun e w' => e = .returned (.bool r) ∧ Below w.heap.size w w' := by
 have HR0 := zk hr0
 have HC0 := zk hc0
 clear hr0 hc0
 have HR1 := zk hr1
 have HC1 := zk hc1
 clear hr1 hc1
 have HB := zk (Below.refl w.heap.size w)
 have H : ((impl_firstPlaces.f l0 l1).bind fun bt326 => (some bt326.2)) = some r := h
 clear h
 replace H := Option.bind_eq_some_iff.mp H
 obtain ⟨⟨t326, t327⟩, A30, H⟩ := H
 try dsimp only at H
 have A3 := zk A30
 clear A30
 obtain rfl := Option.some.inj H
 go_enter Try.func238, Try.ntmps238
 go_wp2_with (first | ((with_reducible refine gate_callee (f := 149) rfl ?_); refine zG (some 10) Try.func149 #[.slice A0 l0.length c0, .slice A1 l1.length c1] ?_; (with_reducible refine (impl_firstPlaces.calls _ _ l0 _ _ l1 t326 t327 _ ?side1 ?side2 ?side3 ?side4 A3.out).mono ?_); (case side1 => exact zC HR0.out); (case side2 => exact HC0.out); (case side3 => exact zC HR1.out); (case side4 => exact HC1.out); rintro e w4 ⟨v328, rfl, ho0, hb⟩; refine ⟨_, rfl, ?_⟩; have HO329 := zk (Kd.R_lower ho0 (below_size (zB HB))); replace HB := zF HB hb; (try clear hb ho0)))
 go_ret
 exact ⟨by first | rfl | (simp [errW_none, errW_some] <;> rfl) | (simp [*, errW_none, errW_some] <;> rfl), by repeat (first | exact HB.out | apply za | apply zd | apply ze)⟩

/-! ### impl_avoids: function 229 -/
section
open Go.Proofs.Ytlkddcabjcejdaa.Base
set_option maxHeartbeats 8000000 in
set_option maxRecDepth 100000 in
theorem indexFunc_av (c1_ : Value) (bad : List Int → Bool) (rows : List (List Int)) (A0 : Option Addr) (c0 : Nat) (w : World) (hr0 : Kd.C (Kd.slice 3 (Kd.int .i64)) w A0 rows.length rows) (hc0 : rows.length ≤ c0) (hlen : rows.length ≤ 4611686018427387904)
 (hcb : ∀ W A c xs, Below w.heap.size w W → xs ∈ rows → Kd.C (Kd.int .i64) W A xs.length xs → xs.length ≤ c → Calls Try.prog 263 #[.slice A xs.length c, c1_] W fun e w' => e = .returned (.bool (bad xs)) ∧ Below W.heap.size W w') :
 Calls Try.prog 253 #[.slice A0 rows.length c0, .func (.func 263) #[] #[c1_]] w fun e w' => e = .returned (.int .i64 (idxGo bad rows 0)) ∧ Below w.heap.size w w' := by
 have HR0 := zk hr0
 have HCB := zk hcb
 obtain ⟨R, hR⟩ : ∃ R, idxGo bad rows 0 = R := ⟨_, rfl⟩
 rw [hR]
 have HP := zk hR
 clear hR hr0 hcb
 go_enter Try.func253, Try.ntmps253
 go_wp2
 go_loopg [8] rows.length (fun kq v8 wr => ∃ (pre suf : List (List Int)), v8 = .int .i64 (pre.length : Int) ∧ kq = suf.length ∧ Aside0 (rows = pre ++ suf) ∧ Aside0 (idxGo bad suf (pre.length : Int) = R) ∧ Aside0 (Below w.heap.size w wr))
 case atStart => exact ⟨[], rows, rfl, rfl, ⟨rfl⟩, HP, ⟨Below.refl _ _⟩⟩
 case round =>
  clear HP
  obtain ⟨pre, suf, rfl, rfl, HL, HP, HB⟩ := hrel
  cases suf with
  | nil =>
   have hl : rows.length = pre.length := by rw [HL.out]; simp
   have hg : ¬ ((pre.length : Int) < (rows.length : Int)) := by omega
   have hgb : decide ((pre.length : Int) < (rows.length : Int)) = false := decide_eq_false hg
   have e := HP.out
   simp only [idxGo] at e
   subst e
   clear hl
   go_wp2
   go_ret
   exact ⟨rfl, HB.out⟩
  | cons x t =>
   have hl : rows.length = pre.length + (t.length + 1) := by rw [HL.out]; simp
   have hg : (pre.length : Int) < (rows.length : Int) := by omega
   have hgb : decide ((pre.length : Int) < (rows.length : Int)) = true := decide_eq_true hg
   have hrd : rows.getD pre.length [] = x := by rw [HL.out]; simp
   obtain ⟨ad, A1, c1, e1, hx, hl1, hi1⟩ := row_at HR0.out (pre.length : Int) (by omega) hg
   cases e1
   rw [show ((pre.length : Int)).toNat = pre.length by omega, hrd] at hx hl1 hi1
   replace hx := pw_cell_below_ HB.out hx
   have HI1 := zk (Kd.C_below hi1 HB.out)
   have HL1 := zk hl1
   have HM := zk (show x ∈ rows by rw [HL.out]; simp)
   have hb1 : (pre.length : Int) ≤ 4611686018427387904 := by omega
   clear hl hrd hi1 hl1
   cases hbx : bad x with
   | true =>
    have H := HCB.out wr A1 c1 x HB.out HM.out HI1.out HL1.out
    rw [hbx] at H
    have HH := zk H
    have e := HP.out
    simp only [idxGo, hbx, if_true] at e
    subst e
    clear H hbx
    go_wp2_with (go_at_call 263; refine HH.out.mono ?_; rintro e_ w2 ⟨rfl, hb2⟩; have HX := zk hb2; clear hb2)
    go_ret
    exact ⟨rfl, below_step HB.out HX.out⟩
   | false =>
    have H := HCB.out wr A1 c1 x HB.out HM.out HI1.out HL1.out
    rw [hbx] at H
    have HH := zk H
    have e := HP.out
    simp only [idxGo, hbx, Bool.false_eq_true, if_false] at e
    have HP2 := zk e
    clear H hbx e
    go_wp2_with (go_at_call 263; refine HH.out.mono ?_; rintro e_ w2 ⟨rfl, hb2⟩; have HX := zk hb2; clear hb2)
    go_roundg t.length
    case measure => simp
    case rel => exact ⟨pre ++ [x], t, by simp, rfl, ⟨by rw [HL.out]; simp⟩, ⟨by have := HP2.out; simpa using this⟩, ⟨below_step HB.out HX.out⟩⟩
set_option maxHeartbeats 8000000 in
set_option maxRecDepth 100000 in
theorem containsFunc_av (c1_ : Value) (bad : List Int → Bool) (rows : List (List Int)) (A0 : Option Addr) (c0 : Nat) (w : World) (hr0 : Kd.C (Kd.slice 3 (Kd.int .i64)) w A0 rows.length rows) (hc0 : rows.length ≤ c0) (hlen : rows.length ≤ 4611686018427387904)
 (hcb : ∀ W A c xs, Below w.heap.size w W → xs ∈ rows → Kd.C (Kd.int .i64) W A xs.length xs → xs.length ≤ c → Calls Try.prog 263 #[.slice A xs.length c, c1_] W fun e w' => e = .returned (.bool (bad xs)) ∧ Below W.heap.size W w') :
 Calls Try.prog 260 #[.slice A0 rows.length c0, .func (.func 263) #[] #[c1_]] w fun e w' => e = .returned (.bool (rows.any bad)) ∧ Below w.heap.size w w' := by
 have H := indexFunc_av c1_ bad rows A0 c0 w hr0 hc0 hlen hcb
 have hi := idxGo_any bad rows 0 (by omega)
 obtain ⟨R, hR⟩ : ∃ R, idxGo bad rows 0 = R := ⟨_, rfl⟩
 rw [hR] at H hi
 rw [← hi]
 have HH := zk H
 clear H hi hR hcb hr0
 cases hd : decide (0 ≤ R) with
 | true =>
  have h0 : 0 ≤ R := zo hd
  clear hd
  go_enter Try.func260, Try.ntmps260
  go_wp2_with (go_at_call 253; refine HH.out.mono ?_; rintro e_ w2 ⟨rfl, hb2⟩; have HX := zk hb2; clear hb2)
  go_ret
  exact ⟨by simp [h0], HX.out⟩
 | false =>
  have h0 : ¬ 0 ≤ R := of_decide_eq_false hd
  clear hd
  go_enter Try.func260, Try.ntmps260
  go_wp2_with (go_at_call 253; refine HH.out.mono ?_; rintro e_ w2 ⟨rfl, hb2⟩; have HX := zk hb2; clear hb2)
  go_ret
  exact ⟨by simp [h0], HX.out⟩
theorem contains_some (l p : List Int) (hl : l.length ≤ 7) (hp : p.length ≤ 7) : impl_contains.f l p = some (fpR l p).2 := by
 unfold impl_contains.f impl_firstPlaces.f
 rw [if_pos ⟨hl, hp⟩]; rfl
set_option maxHeartbeats 8000000 in
set_option maxRecDepth 100000 in
theorem avoids_cb (l : List Int) (A0 : Option Addr) (c0 : Nat) (w0 : World) (g : Nat) (hg : w0.heap[g]? = some (.cells #[.slice A0 l.length c0] 22 (0, 0))) (hl0 : Kd.C (Kd.int .i64) w0 A0 l.length l) (hc0 : l.length ≤ c0) (hl7 : l.length ≤ 7)
 (W : World) (A : Option Addr) (c : Nat) (xs : List Int) (hb : Below w0.heap.size w0 W) (hC : Kd.C (Kd.int .i64) W A xs.length xs) (hc : xs.length ≤ c) (hl : xs.length ≤ 7) :
 Calls Try.prog 263 #[.slice A xs.length c, .pointer (some ⟨g, 0, none⟩)] W fun e w' => e = .returned (.bool (fpR l xs).2) ∧ Below W.heap.size W w' := by
 have H := impl_contains.calls A0 c0 l A c xs (fpR l xs).2 W (Kd.C_below hl0 hb) hc0 hC hc (contains_some l xs hl7 hl)
 have cg := cell_of_one (blk_below hg hb)
 obtain ⟨b, hb⟩ : ∃ b, (fpR l xs).2 = b := ⟨_, rfl⟩
 rw [hb] at H ⊢
 have HH := zk H
 clear H hb hC hl0 hg
 go_enter Try.func263, Try.ntmps263
 go_wp2_with (go_at_call 238; refine HH.out.mono ?_; rintro e_ w2 ⟨rfl, hb2⟩; have HX := zk hb2; clear hb2)
 go_ret
 exact ⟨rfl, HX.out⟩
def avoidsG (l : List Int) (rows : List (List Int)) : Bool := !rows.any (fun p => (fpR l p).2)
def impl_avoids.f (l0 : List Int) (l1 : List (List Int)) : Option Bool := if l0.length ≤ 7 ∧ l1.length ≤ 4611686018427387904 ∧ ∀ xs ∈ l1, xs.length ≤ 7 then some (avoidsG l0 l1) else none
set_option maxHeartbeats 8000000 in
set_option maxRecDepth 100000 in
theorem impl_avoids.calls (A0 : Option Addr) (c0 : Nat) (l0 : List Int) (A1 : Option Addr) (c1 : Nat) (l1 : List (List Int)) (r : Bool) (w : World) (hr0 : Kd.C (Kd.int .i64) w A0 l0.length l0) (hc0 : l0.length ≤ c0) (hr1 : Kd.C (Kd.slice 3 (Kd.int .i64)) w A1 l1.length l1) (hc1 : l1.length ≤ c1) (h : impl_avoids.f l0 l1 = some r) :
 Calls Try.prog 229 #[.slice A0 l0.length c0, .slice A1 l1.length c1] w fun e w' => e = .returned (.bool r) ∧ Below w.heap.size w w' := by
 unfold impl_avoids.f at h
 by_cases hq : l0.length ≤ 7 ∧ l1.length ≤ 4611686018427387904 ∧ ∀ xs ∈ l1, xs.length ≤ 7
 · rw [if_pos hq] at h
   obtain rfl := Option.some.inj h
   have hmf : ∀ (fn : Fn) (first cap : Array Value) (w : World), (Instr.makeFunc fn first cap).run Try.prog w = .ok (.func fn first cap) w := fun _ _ _ _ => rfl
   have H := containsFunc_av (.pointer (some ⟨w.heap.size, 0, none⟩)) (fun p => (fpR l0 p).2) l1 A1 c1 (w.alloc (Obj.cells #[Value.slice A0 l0.length c0] 22)) (zv hr1 _) hc1 hq.2.1
    (fun W A c xs hb hx hC hc => avoids_cb l0 A0 c0 _ w.heap.size (blk_new w _) (zv hr0 _) hc0 hq.1 W A c xs hb hC hc (hq.2.2 xs hx))
   unfold avoidsG
   obtain ⟨b, hb⟩ : ∃ b, l1.any (fun p => (fpR l0 p).2) = b := ⟨_, rfl⟩
   rw [hb] at H ⊢
   have HH := zk H
   clear H h hq hb hr0 hr1
   cases b with
   | true =>
    go_enter Try.func229, Try.ntmps229
    go_wp2_with (go_at_call 260; refine HH.out.mono ?_; rintro e_ w2 ⟨rfl, hb2⟩; have HX := zk hb2; clear hb2)
    go_ret
    exact ⟨rfl, below_step (za (Below.refl _ _) _) HX.out⟩
   | false =>
    go_enter Try.func229, Try.ntmps229
    go_wp2_with (go_at_call 260; refine HH.out.mono ?_; rintro e_ w2 ⟨rfl, hb2⟩; have HX := zk hb2; clear hb2)
    go_ret
    exact ⟨rfl, below_step (za (Below.refl _ _) _) HX.out⟩
 · rw [if_neg hq] at h; cases h
end

end Go.Proofs.Ytlkddcabjcejdaa.MFnAvoiding
