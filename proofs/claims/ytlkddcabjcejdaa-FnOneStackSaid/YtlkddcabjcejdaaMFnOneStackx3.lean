/- The functions that FnOneStack comes to, with a walk for each. Made by this session's own program (wip/tools/mk.py), in the form of the kit's print; walks named in NOTES.md were written by hand. -/
import Derived.Test.YtlkddcabjcejdaaMFnOneStackx0
import Derived.Test.YtlkddcabjcejdaaMFnOneStackx2
namespace Go.Proofs.Ytlkddcabjcejdaa.MFnOneStack
open Go.RowKit Go.Proofs.YtlkddcabjcejdaaW.PrintWords Go.Proofs.YtlkddcabjcejdaaW.PrintLast Go.Proofs.YtlkddcabjcejdaaW.PrintMore
attribute [local go_sem] max2_int min2_int max_two min_two max_three min_three max_four min_four   -- for this text's walks alone
set_option linter.unusedVariables false
set_option linter.unusedSimpArgs false

/-! ### shared: atshape -/
section
open Go.Proofs.Ytlkddcabjcejdaa.Base
theorem impl_shape_in (l : List Int) (hl : l.length ≤ 7) (x : Int) (i : Int) (out R : List Int) (ho : out.length ≤ 7) : ∀ (suf pre : List Int) (a : Int), l = pre ++ suf → 0 ≤ a → a + suf.length ≤ 100 → Ev (fun k => impl_shape.l0 k l (out ++ [a + lessN x suf]) l (l.length : Int) (wrap64 (i + 1))) R → Ev (fun k => impl_shape.l1 k l out x a l (l.length : Int) i l (l.length : Int) (pre.length : Int)) R := by
 intro suf
 induction suf with
 | nil =>
  intro pre a e h0 h1 hR
  have h := len_end e
  refine ev_succ ?_
  simp only [impl_shape.l1.eq_2]
  refine ev_neg (by omega) (ev_pos (by omega) ?_)
  simpa [lessN] using hR
 | cons c suf ih =>
  intro pre a e h0 h1 hR
  have h := len_mid e
  simp only [List.length_cons] at h1
  refine ev_succ ?_
  simp only [impl_shape.l1.eq_2, rd_mid' e]
  rw [wrap_snoc (pre := pre) (c := c) (by omega)]
  refine ev_pos (by omega) (ev_pos (by omega) (ev_pos (by omega) ?_))
  rw [lessN_cons] at hR
  by_cases hc : c < x
  · refine ev_pos hc ?_
    rw [wrap_of (x := a + 1) (by omega) (by omega)]
    refine ih _ _ (snoc_mid e) (by omega) (by omega) ?_
    rw [if_pos hc] at hR
    rwa [show a + 1 + (lessN x suf : Int) = a + ((1 + lessN x suf : Nat) : Int) by omega]
  · refine ev_neg hc (ih _ _ (snoc_mid e) (by omega) (by omega) ?_)
    rw [if_neg hc] at hR
    simpa using hR
theorem impl_shape_l (l : List Int) (hl : l.length ≤ 7) : ∀ (suf pre out : List Int), l = pre ++ suf → out.length = pre.length → Ev (fun k => impl_shape.l0 k l out l (l.length : Int) (pre.length : Int)) (out ++ suf.map (fun x => ((1 + lessN x l : Nat) : Int))) := by
 intro suf
 induction suf with
 | nil =>
  intro pre out e ho
  have h := len_end e
  refine ev_succ ?_
  simp only [impl_shape.l0.eq_2]
  exact ev_neg (by omega) (ev_now (by simp))
 | cons c suf ih =>
  intro pre out e ho
  have h := len_mid e
  refine ev_succ ?_
  simp only [impl_shape.l0.eq_2, rd_mid' e]
  refine ev_pos (by omega) (ev_pos (by omega) (ev_pos (by omega) (impl_shape_in l hl c _ out _ (by omega) l [] 1 rfl (by omega) (by omega) ?_)))
  rw [wrap_snoc (pre := pre) (c := c) (by omega)]
  refine ev_eq (ih _ _ (snoc_mid e) ?_) ?_
  · simp [ho]
  · simp
theorem impl_shape_ev (l : List Int) (hl : l.length ≤ 7) : Ev (fun k => impl_shape.f k l) (shapeL l) := by
 unfold impl_shape.f shapeL
 exact impl_shape_l l hl l [] [] rfl rfl

theorem impl_at_l (l xs : List Int) (hl : xs.length ≤ 7) (hq : ∀ x ∈ xs, 0 ≤ x ∧ x < (l.length : Int)) : ∀ (suf pre out : List Int), xs = pre ++ suf → out.length = pre.length → Ev (fun k => impl_at.l0 k l out xs (xs.length : Int) (pre.length : Int)) (out ++ atG l suf) := by
 intro suf
 induction suf with
 | nil =>
  intro pre out e ho
  have h := len_end e
  refine ev_succ ?_
  simp only [impl_at.l0.eq_2]
  exact ev_neg (by omega) (ev_now (by simp [atG]))
 | cons c suf ih =>
  intro pre out e ho
  have h := len_mid e
  have hc := hq c (by rw [e]; simp)
  refine ev_succ ?_
  simp only [impl_at.l0.eq_2, rd_mid' e]
  rw [wrap_snoc (pre := pre) (c := c) (by omega)]
  refine ev_pos (by omega) (ev_pos (by omega) (ev_pos (by omega) (ev_pos (by omega) (ev_pos (by omega) (ev_pos (by omega) (ev_eq (ih _ _ (snoc_mid e) (by simp [ho])) ?_))))))
  simp [atG]
theorem impl_at_ev (l xs : List Int) (hl : xs.length ≤ 7) (hq : ∀ x ∈ xs, 0 ≤ x ∧ x < (l.length : Int)) : Ev (fun k => impl_at.f k l xs) (atG l xs) := by
 unfold impl_at.f
 exact impl_at_l l xs hl hq xs [] [] rfl rfl
theorem equal_l (a b : List Int) (hl : a.length * 8 ≤ 140737488351232) : ∀ (s t pre q : List Int), a = pre ++ s → b = q ++ t → pre.length = q.length → s.length = t.length → Ev (fun k => slices_Equal_int_int.l0 k a b (a.length : Int) (pre.length : Int)) (decide (s = t)) := by
 intro s
 induction s with
 | nil =>
  intro t pre q e e' h1 h2
  have h := len_end e
  obtain rfl : t = [] := by cases t with
   | nil => rfl
   | cons _ _ => simp at h2
  refine ev_succ ?_
  simp only [slices_Equal_int_int.l0.eq_2]
  exact ev_neg (by omega) (ev_now (by simp))
 | cons c s ih =>
  intro t pre q e e' h1 h2
  cases t with
  | nil => simp at h2
  | cons d t =>
  have h := len_mid e
  have h' := len_mid e'
  refine ev_succ ?_
  have r1 := rd_mid' e
  have r2 := rd_mid' e'
  rw [← h1] at r2
  simp only [slices_Equal_int_int.l0.eq_2, r1, r2]
  refine ev_pos (by omega) (ev_pos (by omega) (ev_pos (by omega) (ev_pos (by omega) ?_)))
  by_cases hc : c = d
  · refine ev_pos hc ?_
    rw [wrap_snoc (pre := pre) (c := c) (by omega)]
    refine ev_eq (ih t (pre ++ [c]) (q ++ [d]) (snoc_mid e) (snoc_mid e') (by simp [h1]) (by simpa using h2)) ?_
    simp [hc]
  · exact ev_neg hc (ev_now (by simp [hc]))
theorem equal_ev (a b : List Int) (hl : a.length * 8 ≤ 140737488351232) : Ev (fun k => slices_Equal_int_int.f k a b) (decide (a = b)) := by
 unfold slices_Equal_int_int.f
 by_cases h : a.length = b.length
 · exact ev_pos (by omega) (equal_l a b hl a b [] [] rfl rfl rfl h)
 · refine ev_neg (by omega) (ev_now ?_)
   symm
   exact decide_eq_false (fun e => h (by rw [e]))
theorem cp_res (l p : List Int) (hp : p.length ≤ 7) : ∀ xs : List Int, xs.length = p.length → (∀ x ∈ xs, 0 ≤ x ∧ x < (l.length : Int)) → ∃ k1 k2 k3, impl_at.f k1 l xs = some (atG l xs) ∧ impl_shape.f k2 (atG l xs) = some (shapeL (atG l xs)) ∧ slices_Equal_int_int.f k3 (shapeL (atG l xs)) p = some (decide (shapeL (atG l xs) = p)) := by
 intro xs hx hq
 have hal : (atG l xs).length ≤ 7 := by simp [atG]; omega
 obtain ⟨k1, h1⟩ := impl_at_ev l xs (by omega) hq
 obtain ⟨k2, h2⟩ := impl_shape_ev (atG l xs) hal
 obtain ⟨k3, h3⟩ := equal_ev (shapeL (atG l xs)) p (by simp [shapeL]; omega)
 exact ⟨k1, k2, k3, h1 k1 (Nat.le_refl _), h2 k2 (Nat.le_refl _), h3 k3 (Nat.le_refl _)⟩
end

/-! ### impl_firstPlaces: function 149 -/
section
open Go.Proofs.Ytlkddcabjcejdaa.Base
set_option maxHeartbeats 8000000 in
set_option maxRecDepth 100000 in
theorem choose_add_fp {σ : Type} (f : σ → List Int → σ × Bool) (I : σ → World → Prop) (S : Nat → Prop) (c1_ c2_ c3_ c4_ : Value) (n many bS gm gw gn ga : Nat)
 (hI : ∀ s W W', I s W → Below W.heap.size W W' → I s W')
 (hcb : ∀ s W A c xs, I s W → bS ≤ W.heap.size → Kd.R (Kd.int .i64) 3 W bS (fun k => ¬ S k) (.slice A xs.length c) xs → xs.length = many → (∀ x ∈ xs, 0 ≤ x ∧ x < (n : Int)) → Calls Try.prog 246 #[.slice A xs.length c, c1_, c2_, c3_, c4_] W fun e w' => e = .returned (.bool (f s xs).2) ∧ I (f s xs).1 w' ∧ Fr S W w')
 (hSlt : ∀ k, S k → k < bS) (hs1 : ¬ S gm) (hs2 : ¬ S gw) (hs3 : ¬ S gn) (hs4 : ¬ S ga) (hn : n < 1073741824) :
 ∀ (r : Nat) (A : Option Addr) (c : Nat) (xs : List Int) (s : σ) (W : World), xs.length + r ≤ n → (∀ x ∈ xs, 0 ≤ x ∧ x < (n : Int)) → I s W → bS ≤ W.heap.size →
  Ch 3 27 39 W gm gw gn ga (.int .i64 (many : Int)) (.func (.func 246) #[] #[c1_, c2_, c3_, c4_]) (.int .i64 (n : Int)) (.func (.func 247) #[] #[.pointer (some ⟨gm, 0, none⟩), .pointer (some ⟨gw, 0, none⟩), .pointer (some ⟨gn, 0, none⟩), .pointer (some ⟨ga, 0, none⟩)]) →
  Kd.R (Kd.int .i64) 3 W bS (fun k => ¬ S k) (.slice A xs.length c) xs →
  Calls Try.prog 247 #[.slice A xs.length c, .int .i64 ((n - r : Nat) : Int), .pointer (some ⟨gm, 0, none⟩), .pointer (some ⟨gw, 0, none⟩), .pointer (some ⟨gn, 0, none⟩), .pointer (some ⟨ga, 0, none⟩)] W fun e w' => e = .returned (.bool (addG f n many r xs s).2) ∧ I (addG f n many r xs s).1 w' ∧ Fr S W w' := by
 have HII := zk hI
 have HCB := zk hcb
 clear hI hcb
 intro r
 induction r using Nat.strongRecOn with
 | ind r IH =>
  have HIH := zk IH
  clear IH
  intro A c xs s W hxr hxq hIs hbs hch hr
  have HCh0 := zk hch
  have HR0 := zk hr
  have HXQ := zk hxq
  clear hxq
  have HI0 := zk hIs
  clear hch hr hIs
  have cM := cell_of_one HCh0.out.hm
  have cW := cell_of_one HCh0.out.hw
  by_cases hm : xs.length = many
  · have hmb : ((xs.length : Int) == (many : Int)) = true := by simp [hm]
    have ea : addG f n many r xs s = f s xs := by unfold addG; rw [if_pos hm]
    rw [ea]
    have HM := zk hm
    clear hm ea
    go_enter Try.func247, Try.ntmps247
    go_wp2_with (go_at_call 246; refine (HCB.out s W A c xs HI0.out hbs HR0.out HM.out HXQ.out).mono ?_; rintro e_ w2 ⟨rfl, h1, h2⟩; have HX := zk (And.intro h1 h2); clear h1 h2)
    go_ret
    exact ⟨rfl, HX.out⟩
  · have hmb : ((xs.length : Int) == (many : Int)) = false := by simp; omega
    have ea : addG f n many r xs s = loopG f n many r xs s := by unfold addG; rw [if_neg hm]
    rw [ea]
    clear cW
    obtain ⟨R, hR⟩ : ∃ R, loopG f n many r xs s = R := ⟨_, rfl⟩
    rw [hR]
    have HP := zk hR
    clear hR ea
    go_enter Try.func247, Try.ntmps247
    go_wp2
    go_loopg [9] r (fun kq v9 wr => ∃ (r1 : Nat) (s1 : σ), v9 = .int .i64 ((n - r1 : Nat) : Int) ∧ kq = r1 ∧ r1 ≤ r ∧ Aside0 (loopG f n many r1 xs s1 = R) ∧ Aside0 (I s1 wr) ∧ Aside0 (Fr S W wr))
    case atStart => exact ⟨r, s, rfl, rfl, Nat.le_refl _, HP, HI0, ⟨Fr.refl _ _⟩⟩
    case round =>
     clear HP HI0 cM
     obtain ⟨r1, s1, rfl, hkq, hrr, HP, HI, HF⟩ := hrel
     obtain rfl : r1 = gk := hkq.symm
     have HCh := zk (HCh0.out.fr HF.out hs1 hs2 hs3 hs4)
     have HR := zk (R_fr HR0.out HF.out)
     have cN := cell_of_one HCh.out.hn
     cases r1 with
     | zero =>
      have e := HP.out
      simp only [loopG] at e
      subst e
      go_wp2
      go_ret
      exact ⟨rfl, HI.out, HF.out⟩
     | succ r1 =>
      have hlt : ((n - (r1 + 1) : Nat) : Int) < (n : Int) := by omega
      have hltb : decide (((n - (r1 + 1) : Nat) : Int) < (n : Int)) = true := decide_eq_true hlt
      have hw64 : wrap64 (((n - (r1 + 1) : Nat) : Int) + 1) = ((n - r1 : Nat) : Int) := by unfold wrap64; omega
      have HW64 := zk hw64
      clear hw64
      go_upto_region 6 with (fail)
      have hw64 := HW64.out
      refine start_ (n := 9) (S := fun w' => w'.cell? ⟨ga, 0, none⟩ = some (Value.func (Fn.func 247) #[] #[.pointer (some ⟨gm, 0, none⟩), .pointer (some ⟨gw, 0, none⟩), .pointer (some ⟨gn, 0, none⟩), .pointer (some ⟨ga, 0, none⟩)])) (ds := []) #[false, false, false, false, false, false, false, false, false] (by kernel_rfl) rfl rfl (cell_of_one HCh.out.ha) (fun hHeld => ?_)
      have HR := zk (zt HR.out)
      have HCh := zk (HCh.out.fr (S := S) (Fr.of_below (below_drew (Below.refl _ _))) hs1 hs2 hs3 hs4)
      replace HF := zk (HF.out.trans (Fr.of_below (below_drew (Below.refl _ _))))
      replace HI := zk (HII.out _ _ _ HI.out (below_drew (Below.refl _ _)))
      generalize World.drew _ = w1 at HF HI HR HCh hHeld ⊢
      have HB := zk (Below.refl w1.heap.size w1)
      refine pure_ (i := 1) (N := some 24) (v := ?_) (a' := ?_) #[false, true, false, false, false, false, false, false, false] rfl rfl (by kernel_rfl) (fun _ _ _ h => h) (Or.inl ⟨by rfl, ?_⟩) ?_ ?_
      rotate_left
      · intro w'
        go_simp
        with_reducible rfl
      rotate_left
      · simp only [Act.put, List.setIfInBounds_toArray, List.set_cons_zero, List.set_cons_succ, i64_w, i32_w]
        rfl
      refine pure_ (i := 3) (N := some 26) (v := ?_) (a' := ?_) #[false, true, false, true, false, false, false, false, false] rfl rfl (by kernel_rfl) (fun _ _ _ h => h) (Or.inl ⟨by rfl, ?_⟩) ?_ ?_
      rotate_left
      · intro w'
        go_simp
        with_reducible rfl
      rotate_left
      · simp only [Act.put, List.setIfInBounds_toArray, List.set_cons_zero, List.set_cons_succ, i64_w, i32_w]
        rfl
      refine pure_ (i := 6) (N := some 29) (v := ?_) (a' := ?_) #[false, true, false, true, false, false, true, false, false] rfl rfl (by kernel_rfl) (fun _ _ _ h => h) (Or.inl ⟨by rfl, ?_⟩) ?_ ?_
      rotate_left
      · intro w'
        go_simp
        with_reducible rfl
      rotate_left
      · simp only [Act.put, List.setIfInBounds_toArray, List.set_cons_zero, List.set_cons_succ, i64_w, i32_w]
        rfl
      refine pure_ (i := 7) (N := some 30) (v := ?_) (a' := ?_) #[false, true, false, true, false, false, true, true, false] rfl rfl (by kernel_rfl) (fun _ _ _ h => h) (Or.inl ⟨by rfl, ?_⟩) ?_ ?_
      rotate_left
      · intro w'
        go_simp
        with_reducible rfl
      rotate_left
      · simp only [Act.put, List.setIfInBounds_toArray, List.set_cons_zero, List.set_cons_succ, i64_w, i32_w]
        rfl
      refine take_ (i := 0) (N := some 23) (v := ?_) (a' := ?_) #[true, true, false, true, false, false, true, true, false] rfl rfl (by kernel_rfl) (fun _ _ _ h => h) (Or.inl ⟨by rfl, ?_⟩) hHeld ?_ ?_
      rotate_left
      · intro w' s0
        go_simp
        with_reducible rfl
      rotate_left
      · simp only [Act.put, List.setIfInBounds_toArray, List.set_cons_zero, List.set_cons_succ, i64_w, i32_w]
        rfl
      refine join_ (σ := Value × Value) 2 #[true, true, true, true, true, false, true, true, false] (fun s_ => [(25, s_.1), (27, s_.2)]) (fun s_ w' => (w'.cell? ⟨ga, 0, none⟩ = some (Value.func (Fn.func 247) #[] #[.pointer (some ⟨gm, 0, none⟩), .pointer (some ⟨gw, 0, none⟩), .pointer (some ⟨gn, 0, none⟩), .pointer (some ⟨ga, 0, none⟩)])) ∧ Aside0 (Below w1.heap.size w1 w') ∧ Aside0 (Kd.R (Kd.int .i64) 3 w' w1.heap.size (fun _ => True) s_.1 xs) ∧ Aside0 (Kd.R (Kd.int .i64) 3 w' w1.heap.size (fun _ => True) s_.2 [((n - (r1 + 1) : Nat) : Int)])) ?_ ?_
      rotate_left
      · intro hCont
        refine two_ (i := 2) (j := 4) (Ni := some 25) (Nj := some 27) #[true, true, true, true, false, false, true, true, false] #[true, true, false, true, true, false, true, true, false] rfl rfl rfl rfl (by kernel_rfl) (by decide) (by decide) (fun K hK => ?_) (fun K hK => ?_)
        · skip
          refine goes_ Try.func248 (by kernel_rfl) rfl #[.slice A xs.length c] (by rfl) rfl rfl (by simp only [List.map_toArray, List.map_cons, List.map_nil]; rfl) ?_
          with_reducible refine (slices_Clone_int_int.calls A c xs xs _ (Kd.R_reads' (Kd.R_below HR.out HB.out)).2.2 (Kd.R_reads' HR.out).2.1 (by unfold slices_Clone_int_int.f; rw [if_pos (by omega)])).mono ?_
          rintro e_ w3 ⟨v25, rfl, hR25, hb3⟩
          have hz2 := HB.out.size
          have HR25 := zk (Kd.R_lower hR25 hz2)
          replace HB := zk (below_step HB.out hb3)
          clear hz2 hR25 hb3
          refine ⟨_, rfl, ?_⟩
          refine hK.out _ _ (cell_of_one (HCh.out.fr (Fr.of_below (S := S) HB.out) hs1 hs2 hs3 hs4).ha) (fun hHeld => ?_)
          clear hK K
          refine norm_ (a' := ?_) ?_ ?_
          rotate_left
          · show Act.put _ (some 25) _ = _
            simp only [Act.put, List.setIfInBounds_toArray, List.set_cons_zero, List.set_cons_succ, i64_w, i32_w]
            rfl
          refine one_ (i := 4) (N := some 27) #[true, true, true, true, true, false, true, true, false] rfl rfl (by kernel_rfl) (by decide) (fun K hK => ?_)
          have hz4 := HB.out.size
          refine Kd.R_lit_step (Kd.int .i64) _ 3 ?hg (N := 27) ?hd (xs := ([((n - (r1 + 1) : Nat) : Int)] : List Int)) (inner := [.int .i64 ((n - (r1 + 1) : Nat) : Int)]) (ok := fun _ => True) (okp := fun _ => True) ?hr ?hp (fun _ hk => hk) trivial (Below.refl _ _) (Nat.le_refl _) (by simp) ?_; (case hd => rfl); (case hg => rfl); (case hr => first | (go_simp; done) | (go_simp; rfl)); (case hp => exact (Reps.one (show Kd.M (Kd.int .i64) _ _ _ _ [.int .i64 _] from rfl) (Reps.none _ _)))
          intro v27 w4 hL4 hb4 hg4 hn4
          have HL27 := zk (Kd.R_lower hL4 hz4)
          replace HR25 := zk (Kd.R_below HR25.out hb4)
          replace HB := zk (below_step HB.out hb4)
          clear hz4 hL4 hb4 hg4 hn4
          refine hK.out _ _ (cell_of_one (HCh.out.fr (Fr.of_below (S := S) HB.out) hs1 hs2 hs3 hs4).ha) (fun hHeld => ?_)
          clear hK K
          refine norm_ (a' := ?_) ?_ ?_
          rotate_left
          · show Act.put _ (some 27) _ = _
            simp only [Act.put, List.setIfInBounds_toArray, List.set_cons_zero, List.set_cons_succ, i64_w, i32_w]
            rfl
          exact norm_ (by simp only [putAll, Act.put, List.setIfInBounds_toArray, List.set_cons_zero, List.set_cons_succ]) (hCont (v25, v27) _ ⟨hHeld, HB, HR25, HL27⟩)
        · skip
          have hz4 := HB.out.size
          refine Kd.R_lit_step (Kd.int .i64) _ 3 ?hg (N := 27) ?hd (xs := ([((n - (r1 + 1) : Nat) : Int)] : List Int)) (inner := [.int .i64 ((n - (r1 + 1) : Nat) : Int)]) (ok := fun _ => True) (okp := fun _ => True) ?hr ?hp (fun _ hk => hk) trivial (Below.refl _ _) (Nat.le_refl _) (by simp) ?_; (case hd => rfl); (case hg => rfl); (case hr => first | (go_simp; done) | (go_simp; rfl)); (case hp => exact (Reps.one (show Kd.M (Kd.int .i64) _ _ _ _ [.int .i64 _] from rfl) (Reps.none _ _)))
          intro v27 w4 hL4 hb4 hg4 hn4
          have HL27 := zk (Kd.R_lower hL4 hz4)
          replace HB := zk (below_step HB.out hb4)
          clear hz4 hL4 hb4 hg4 hn4
          refine hK.out _ _ (cell_of_one (HCh.out.fr (Fr.of_below (S := S) HB.out) hs1 hs2 hs3 hs4).ha) (fun hHeld => ?_)
          clear hK K
          refine norm_ (a' := ?_) ?_ ?_
          rotate_left
          · show Act.put _ (some 27) _ = _
            simp only [Act.put, List.setIfInBounds_toArray, List.set_cons_zero, List.set_cons_succ, i64_w, i32_w]
            rfl
          refine one_ (i := 2) (N := some 25) #[true, true, true, true, true, false, true, true, false] rfl rfl (by kernel_rfl) (by decide) (fun K hK => ?_)
          refine goes_ Try.func248 (by kernel_rfl) rfl #[.slice A xs.length c] (by rfl) rfl rfl (by simp only [List.map_toArray, List.map_cons, List.map_nil]; rfl) ?_
          with_reducible refine (slices_Clone_int_int.calls A c xs xs _ (Kd.R_reads' (Kd.R_below HR.out HB.out)).2.2 (Kd.R_reads' HR.out).2.1 (by unfold slices_Clone_int_int.f; rw [if_pos (by omega)])).mono ?_
          rintro e_ w3 ⟨v25, rfl, hR25, hb3⟩
          have hz2 := HB.out.size
          have HR25 := zk (Kd.R_lower hR25 hz2)
          replace HL27 := zk (Kd.R_below HL27.out hb3)
          replace HB := zk (below_step HB.out hb3)
          clear hz2 hR25 hb3
          refine ⟨_, rfl, ?_⟩
          refine hK.out _ _ (cell_of_one (HCh.out.fr (Fr.of_below (S := S) HB.out) hs1 hs2 hs3 hs4).ha) (fun hHeld => ?_)
          clear hK K
          refine norm_ (a' := ?_) ?_ ?_
          rotate_left
          · show Act.put _ (some 25) _ = _
            simp only [Act.put, List.setIfInBounds_toArray, List.set_cons_zero, List.set_cons_succ, i64_w, i32_w]
            rfl
          exact norm_ (by simp only [putAll, Act.put, List.setIfInBounds_toArray, List.set_cons_zero, List.set_cons_succ]) (hCont (v25, v27) _ ⟨hHeld, HB, HR25, HL27⟩)
      clear HB hHeld
      rintro ⟨v25, v27⟩ w6 ⟨hHeld, HB, HR25, HL27⟩
      obtain ⟨A25, c25, e25⟩ := Kd.R_slice HR25.out
      obtain ⟨A27, c27, e27⟩ := Kd.R_slice HL27.out
      simp only at e25 e27
      subst e25
      subst e27
      refine norm_ (a' := ?_) ?_ ?_
      rotate_left
      · simp only [putAll, Act.put, List.setIfInBounds_toArray, List.set_cons_zero, List.set_cons_succ]
        rfl
      refine one_ (i := 5) (N := some 28) #[true, true, true, true, true, true, true, true, false] rfl rfl (by kernel_rfl) (by decide) (fun K hK => ?_)
      refine Kd.R_append_rows_step (Kd.int .i64) (w0 := w1) w1.heap.size (by rfl) (.tmp 25) (.tmp 27) 22 3 (.int .i64 0) 8 rfl Try.underlying22 info3 rfl (by decide) (by omega) (.slice A25 xs.length c25) xs [((n - (r1 + 1) : Nat) : Int)] _ _ _ (fun _ => True) (fun _ => False) rfl rfl HR25.out (Kd.R_reads' HL27.out).2.2 (fun _ _ h => h) (fun _ h => h.elim) (fun _ _ => trivial) HB.out HB.out.size (by simp only [List.length_cons, List.length_nil]; omega) ?_
      intro v28 w7 ho7 hb7 hg7 hat7
      obtain ⟨A28, c28, e28⟩ := Kd.R_slice ho7
      subst e28
      replace HB := zk hb7
      have HR28 := zk ho7
      clear hat7 hg7 hb7 ho7 HL27 HR25
      refine hK.out _ _ (cell_of_one (HCh.out.fr (Fr.of_below (S := S) HB.out) hs1 hs2 hs3 hs4).ha) (fun hHeld => ?_)
      clear hK K
      refine norm_ (a' := ?_) ?_ ?_
      rotate_left
      · show Act.put _ (some 28) _ = _
        simp only [Act.put, List.setIfInBounds_toArray, List.set_cons_zero, List.set_cons_succ, i64_w, i32_w]
        rfl
      refine one_ (i := 8) (N := some 31) #[true, true, true, true, true, true, true, true, true] rfl rfl (by kernel_rfl) (by decide) (fun K hK => ?_)
      obtain ⟨P8, hP8⟩ : ∃ p, addG f n many r1 (xs ++ [((n - (r1 + 1) : Nat) : Int)]) s1 = p := ⟨_, rfl⟩
      have hbw : bS ≤ w1.heap.size := Nat.le_trans hbs HF.out.size
      have HC7 := zk (HCh.out.fr (S := S) (Fr.of_below HB.out) hs1 hs2 hs3 hs4)
      have HR7 := zk (show Kd.R (Kd.int .i64) 3 w7 bS (fun k => ¬ S k) (.slice A28 (xs ++ [((n - (r1 + 1) : Nat) : Int)]).length c28) (xs ++ [((n - (r1 + 1) : Nat) : Int)]) from Kd.R_of_own (Kd.own_of_R (Kd.R_lower HR28.out hbw)) (fun k hk hs => by have := Kd.R_base HR28.out k hk; have := hSlt k hs; omega))
      have H8 := HIH.out r1 (by omega) A28 c28 (xs ++ [((n - (r1 + 1) : Nat) : Int)]) s1 w7 (by simp; omega) (fun x hx => by rcases List.mem_append.1 hx with hx | hx; exact HXQ.out x hx; (have hx := List.mem_singleton.1 hx; omega)) (HII.out _ _ _ HI.out HB.out) (Nat.le_trans hbw HB.out.size) HC7.out HR7.out
      rw [← hw64] at H8
      refine call_ 247 #[.slice A28 (xs ++ [((n - (r1 + 1) : Nat) : Int)]).length c28, .int .i64 (wrap64 (((n - (r1 + 1) : Nat) : Int) + 1)), .pointer (some ⟨gm, 0, none⟩), .pointer (some ⟨gw, 0, none⟩), .pointer (some ⟨gn, 0, none⟩), .pointer (some ⟨ga, 0, none⟩)] (by rfl) rfl ?hrun8 ?_; (case hrun8 => clear H8; go_simp; (try rfl); trace_state)
      with_reducible refine H8.mono ?_
      rintro e8 w8 ⟨he8, hI8, hF8⟩
      rw [hP8] at he8 hI8
      subst he8
      obtain ⟨s8, b8⟩ := P8
      simp only at hI8
      have HX := zk (And.intro hI8 hF8)
      have HC8 := zk (HC7.out.fr hF8 hs1 hs2 hs3 hs4)
      have HP8 := zk hP8
      clear hI8 hF8 H8 hP8
      refine ⟨_, rfl, ?_⟩
      refine hK.out _ _ (cell_of_one HC8.out.ha) (fun hHeld => ?_)
      clear hK K
      refine norm_ (a' := ?_) ?_ ?_
      rotate_left
      · show Act.put _ (some 31) _ = _
        simp only [Act.put, List.setIfInBounds_toArray, List.set_cons_zero, List.set_cons_succ, i64_w, i32_w]
        rfl
      refine done_ (by kernel_rfl) ?_
      have e := HP.out
      rw [loopG_succ, HP8.out] at e
      have HFF := zk (HF.out.trans ((Fr.of_below HB.out).trans HX.out.2))
      have HI8 := zk HX.out.1
      cases b8 with
      | true =>
       simp only [if_true] at e
       subst e
       try go_wp2
       go_ret
       exact ⟨rfl, HI8.out, HFF.out⟩
      | false =>
       simp only [Bool.false_eq_true, if_false] at e
       have HE := zk e
       clear e
       try go_wp2
       go_roundg r1
       case measure => omega
       case rel => exact ⟨r1, s8, by simp [hw64]; omega, rfl, by omega, HE, HI8, HFF⟩
set_option maxHeartbeats 8000000 in
set_option maxRecDepth 100000 in
theorem choose_calls_fp {σ : Type} (f : σ → List Int → σ × Bool) (I : σ → World → Prop) (S : Nat → Prop) (c1_ c2_ c3_ c4_ : Value) (n many : Nat) (s : σ) (w : World)
 (hI : ∀ s W W', I s W → Below W.heap.size W W' → I s W')
 (hcb : ∀ s W A c xs, I s W → w.heap.size ≤ W.heap.size → Kd.R (Kd.int .i64) 3 W w.heap.size (fun k => ¬ S k) (.slice A xs.length c) xs → xs.length = many → (∀ x ∈ xs, 0 ≤ x ∧ x < (n : Int)) → Calls Try.prog 246 #[.slice A xs.length c, c1_, c2_, c3_, c4_] W fun e w' => e = .returned (.bool (f s xs).2) ∧ I (f s xs).1 w' ∧ Fr S W w')
 (hSlt : ∀ k, S k → k < w.heap.size) (hn : n < 1073741824) (hs : I s w) :
 Calls Try.prog 159 #[.int .i64 (n : Int), .int .i64 (many : Int), .func (.func 246) #[] #[c1_, c2_, c3_, c4_]] w fun e w' => e = .returned (.tuple #[]) ∧ I (addG f n many n [] s).1 w' ∧ Fr S w w' := by
 have hmf : ∀ (fn : Fn) (first cap : Array Value) (w : World), (Instr.makeFunc fn first cap).run Try.prog w = .ok (.func fn first cap) w := fun _ _ _ _ => rfl
 have HII := zk hI
 have HCB := zk hcb
 have HS := zk hSlt
 have HI := zk hs
 clear hI hcb hSlt hs
 have z1 : ∀ (W : World) (o : Obj), (W.alloc o).heap.size = W.heap.size + 1 := fun W o => by simp
 have hga : ((((w.alloc (Obj.cells #[Value.int IntKind.i64 ↑n]  3)).alloc (Obj.cells #[Value.int IntKind.i64 ↑many]  3)).alloc (Obj.cells #[Value.func (Fn.func 246) #[] #[c1_, c2_, c3_, c4_]] 27)).alloc (Obj.cells #[Value.nilFunc] 39)).heap[w.heap.size + 1 + 1 + 1]? = some (.cells #[Value.nilFunc] 39 (0, 0)) := by
  have := blk_new (((w.alloc (Obj.cells #[Value.int IntKind.i64 ↑n]  3)).alloc (Obj.cells #[Value.int IntKind.i64 ↑many]  3)).alloc (Obj.cells #[Value.func (Fn.func 246) #[] #[c1_, c2_, c3_, c4_]] 27)) (Obj.cells #[Value.nilFunc] 39)
  rwa [z1, z1, z1] at this
 have zc := cell_of_one hga
 have zf := free_of_one hga
 clear hga
 have hst : ∀ (fn : Fn) (x y : Array Value) (a : Addr) (W : World), (store a (.func fn x y)).run Try.prog W = stored Try.prog W a (.func fn x y) .plain := fun fn x y a W => run_store Try.prog W a _ .plain rfl
 have hbel : Below w.heap.size w (((((w.alloc (Obj.cells #[Value.int IntKind.i64 ↑n]  3)).alloc (Obj.cells #[Value.int IntKind.i64 ↑many]  3)).alloc (Obj.cells #[Value.func (Fn.func 246) #[] #[c1_, c2_, c3_, c4_]] 27)).alloc (Obj.cells #[(Value.func (Fn.func 247) #[] #[Value.pointer (some { block := w.heap.size + 1, off := 0 }), Value.pointer (some { block := w.heap.size + 1 + 1, off := 0 }), Value.pointer (some { block := w.heap.size, off := 0 }), Value.pointer (some { block := w.heap.size + 1 + 1 + 1, off := 0 })])] 39)).alloc (Obj.cells #[]  3)) := za (za (za (za (za (Below.refl _ _) _) _) _) _) _
 have hch : Ch 3 27 39 (((((w.alloc (Obj.cells #[Value.int IntKind.i64 ↑n]  3)).alloc (Obj.cells #[Value.int IntKind.i64 ↑many]  3)).alloc (Obj.cells #[Value.func (Fn.func 246) #[] #[c1_, c2_, c3_, c4_]] 27)).alloc (Obj.cells #[(Value.func (Fn.func 247) #[] #[Value.pointer (some { block := w.heap.size + 1, off := 0 }), Value.pointer (some { block := w.heap.size + 1 + 1, off := 0 }), Value.pointer (some { block := w.heap.size, off := 0 }), Value.pointer (some { block := w.heap.size + 1 + 1 + 1, off := 0 })])] 39)).alloc (Obj.cells #[]  3)) (w.heap.size + 1) (w.heap.size + 1 + 1) w.heap.size (w.heap.size + 1 + 1 + 1) (.int .i64 (many : Int)) (.func (.func 246) #[] #[c1_, c2_, c3_, c4_]) (.int .i64 (n : Int)) (Value.func (Fn.func 247) #[] #[Value.pointer (some { block := w.heap.size + 1, off := 0 }), Value.pointer (some { block := w.heap.size + 1 + 1, off := 0 }), Value.pointer (some { block := w.heap.size, off := 0 }), Value.pointer (some { block := w.heap.size + 1 + 1 + 1, off := 0 })]) := by
  refine ⟨?_, ?_, ?_, ?_⟩
  · exact blk_alloc (blk_alloc (blk_alloc (by have := blk_new (w.alloc (Obj.cells #[Value.int IntKind.i64 ↑n]  3)) (Obj.cells #[Value.int IntKind.i64 ↑many]  3); rwa [z1] at this) _) _) _
  · exact blk_alloc (blk_alloc (by have := blk_new ((w.alloc (Obj.cells #[Value.int IntKind.i64 ↑n]  3)).alloc (Obj.cells #[Value.int IntKind.i64 ↑many]  3)) (Obj.cells #[Value.func (Fn.func 246) #[] #[c1_, c2_, c3_, c4_]] 27); rwa [z1, z1] at this) _) _
  · exact blk_alloc (blk_alloc (blk_alloc (blk_alloc (blk_new w (Obj.cells #[Value.int IntKind.i64 ↑n]  3)) _) _) _) _
  · exact blk_alloc (by have := blk_new (((w.alloc (Obj.cells #[Value.int IntKind.i64 ↑n]  3)).alloc (Obj.cells #[Value.int IntKind.i64 ↑many]  3)).alloc (Obj.cells #[Value.func (Fn.func 246) #[] #[c1_, c2_, c3_, c4_]] 27)) (Obj.cells #[(Value.func (Fn.func 247) #[] #[Value.pointer (some { block := w.heap.size + 1, off := 0 }), Value.pointer (some { block := w.heap.size + 1 + 1, off := 0 }), Value.pointer (some { block := w.heap.size, off := 0 }), Value.pointer (some { block := w.heap.size + 1 + 1 + 1, off := 0 })])] 39); rwa [z1, z1, z1] at this) _
 have hrow : Kd.R (Kd.int .i64) 3 (((((w.alloc (Obj.cells #[Value.int IntKind.i64 ↑n]  3)).alloc (Obj.cells #[Value.int IntKind.i64 ↑many]  3)).alloc (Obj.cells #[Value.func (Fn.func 246) #[] #[c1_, c2_, c3_, c4_]] 27)).alloc (Obj.cells #[(Value.func (Fn.func 247) #[] #[Value.pointer (some { block := w.heap.size + 1, off := 0 }), Value.pointer (some { block := w.heap.size + 1 + 1, off := 0 }), Value.pointer (some { block := w.heap.size, off := 0 }), Value.pointer (some { block := w.heap.size + 1 + 1 + 1, off := 0 })])] 39)).alloc (Obj.cells #[]  3)) w.heap.size (fun k => ¬ S k) (.slice (some { block := w.heap.size + 1 + 1 + 1 + 1, off := 0 }) ([] : List Int).length 0) [] :=
  Kd.R_of_own ⟨rfl, Or.inr ⟨w.heap.size + 1 + 1 + 1 + 1, 0, #[], rfl, by omega, by have := blk_new ((((w.alloc (Obj.cells #[Value.int IntKind.i64 ↑n]  3)).alloc (Obj.cells #[Value.int IntKind.i64 ↑many]  3)).alloc (Obj.cells #[Value.func (Fn.func 246) #[] #[c1_, c2_, c3_, c4_]] 27)).alloc (Obj.cells #[(Value.func (Fn.func 247) #[] #[Value.pointer (some { block := w.heap.size + 1, off := 0 }), Value.pointer (some { block := w.heap.size + 1 + 1, off := 0 }), Value.pointer (some { block := w.heap.size, off := 0 }), Value.pointer (some { block := w.heap.size + 1 + 1 + 1, off := 0 })])] 39)) (Obj.cells #[]  3); rwa [z1, z1, z1, z1] at this, Nat.le_refl _, Nat.zero_le _, rfl, rfl⟩⟩ (fun k hk hs => by
   have h1 := HS.out k hs
   have h2 : w.heap.size + 1 + 1 + 1 + 1 = k := by simpa [Value.ownBlock] using hk
   omega)
 have H := choose_add_fp f I S c1_ c2_ c3_ c4_ n many w.heap.size (w.heap.size + 1) (w.heap.size + 1 + 1) w.heap.size (w.heap.size + 1 + 1 + 1) HII.out HCB.out HS.out (fun h => by have := HS.out _ h; omega) (fun h => by have := HS.out _ h; omega) (fun h => by have := HS.out _ h; omega) (fun h => by have := HS.out _ h; omega) hn n (some { block := w.heap.size + 1 + 1 + 1 + 1, off := 0 }) 0 [] s (((((w.alloc (Obj.cells #[Value.int IntKind.i64 ↑n]  3)).alloc (Obj.cells #[Value.int IntKind.i64 ↑many]  3)).alloc (Obj.cells #[Value.func (Fn.func 246) #[] #[c1_, c2_, c3_, c4_]] 27)).alloc (Obj.cells #[(Value.func (Fn.func 247) #[] #[Value.pointer (some { block := w.heap.size + 1, off := 0 }), Value.pointer (some { block := w.heap.size + 1 + 1, off := 0 }), Value.pointer (some { block := w.heap.size, off := 0 }), Value.pointer (some { block := w.heap.size + 1 + 1 + 1, off := 0 })])] 39)).alloc (Obj.cells #[]  3)) (by simp) (by simp) (HII.out _ _ _ HI.out hbel) hbel.size hch hrow
 rw [show ((n - n : Nat) : Int) = 0 by simp] at H
 have HH := zk H
 have HBel := zk hbel
 clear H hrow hch hbel z1
 go_enter Try.func159, Try.ntmps159
 go_wp2_with (go_at_call 247; refine HH.out.mono ?_; rintro e_ w2 ⟨rfl, h1, h2⟩; have HX := zk (And.intro h1 h2); clear h1 h2)
 go_end0
 exact ⟨rfl, HX.out.1, (Fr.of_below HBel.out).trans HX.out.2⟩
/-- firstPlaces' captured variables: the two lists', whether one is found, and the places. -/
structure Fp (tL tI tB : TypeId) (w0 W : World) (gl gp gf go : Nat) (v0 v1 : Value) (s : List Int × Bool) : Prop where
 hl : W.heap[gl]? = some (.cells #[v0] tL (0, 0))
 hp : W.heap[gp]? = some (.cells #[v1] tL (0, 0))
 hf : W.heap[gf]? = some (.cells #[.bool s.2] tB (0, 0))
 ho : ∃ v, W.heap[go]? = some (.cells #[v] tL (0, 0)) ∧ Kd.R (Kd.int .i64) tI W w0.heap.size (fun k => ¬ (k = gf ∨ k = go)) v s.1
 hb : Below w0.heap.size w0 W
 gf_ : w0.heap.size ≤ gf
 go_ : w0.heap.size ≤ go
 n1 : tL ≠ tB
 n2 : gl ≠ go
 n3 : gp ≠ go
theorem Fp.below {tL tI tB : TypeId} {w0 W W' : World} {gl gp gf go : Nat} {v0 v1 : Value} {s : List Int × Bool} (h : Fp tL tI tB w0 W gl gp gf go v0 v1 s) (hb : Below W.heap.size W W') : Fp tL tI tB w0 W' gl gp gf go v0 v1 s := by
 obtain ⟨v, h1, h2⟩ := h.ho
 exact ⟨blk_below h.hl hb, blk_below h.hp hb, blk_below h.hf hb, ⟨v, blk_below h1 hb, Kd.R_below h2 hb⟩, below_step h.hb hb, h.gf_, h.go_, h.n1, h.n2, h.n3⟩
theorem Fp.putF {tL tI tB : TypeId} {w0 W : World} {gl gp gf go : Nat} {v0 v1 : Value} {s : List Int × Bool} (h : Fp tL tI tB w0 W gl gp gf go v0 v1 s) (b : Bool) : Fp tL tI tB w0 (W.setCell ⟨gf, 0, none⟩ (.bool b)) gl gp gf go v0 v1 (s.1, b) := by
 obtain ⟨v, h1, h2⟩ := h.ho
 exact ⟨blk_far h.hl (blk_ne h.hl h.hf h.n1) _, blk_far h.hp (blk_ne h.hp h.hf h.n1) _, one_setCell h.hf, ⟨v, blk_far h1 (blk_ne h1 h.hf h.n1) _, Kd.R_far h2 (fun k hk e => hk (.inl e)) _⟩, h.hb.setCell h.gf_ _, h.gf_, h.go_, h.n1, h.n2, h.n3⟩
theorem Fp.putO {tL tI tB : TypeId} {w0 W : World} {gl gp gf go : Nat} {v0 v1 : Value} {s : List Int × Bool} (h : Fp tL tI tB w0 W gl gp gf go v0 v1 s) (u : Value) (xs : List Int) (hr : Kd.R (Kd.int .i64) tI W w0.heap.size (fun k => ¬ (k = gf ∨ k = go)) u xs) : Fp tL tI tB w0 (W.setCell ⟨go, 0, none⟩ u) gl gp gf go v0 v1 (xs, s.2) := by
 obtain ⟨v, h1, h2⟩ := h.ho
 exact ⟨blk_far h.hl h.n2 _, blk_far h.hp h.n3 _, blk_far h.hf (fun e => h.n1 (by have := blk_ne h1 h.hf h.n1; exact absurd e.symm this)) _, ⟨u, one_setCell h1, Kd.R_far hr (fun k hk e => hk (.inr e)) _⟩, h.hb.setCell h.go_ _, h.gf_, h.go_, h.n1, h.n2, h.n3⟩
set_option maxHeartbeats 8000000 in
set_option maxRecDepth 100000 in
theorem firstPlaces_cb (l p : List Int) (A0 A1 : Option Addr) (c0 c1 : Nat) (w0 : World) (gl gp gf go : Nat) (atl shp : List Int → List Int) (many : Nat)
 (hl0 : Kd.C (Kd.int .i64) w0 A0 l.length l) (hc0 : l.length ≤ c0) (hp0 : Kd.C (Kd.int .i64) w0 A1 p.length p) (hc1 : p.length ≤ c1)
 (hres : ∀ xs : List Int, xs.length = many → (∀ x ∈ xs, 0 ≤ x ∧ x < (l.length : Int)) → ∃ k1 k2 k3, impl_at.f k1 l xs = some (atl xs) ∧ impl_shape.f k2 (atl xs) = some (shp xs) ∧ slices_Equal_int_int.f k3 (shp xs) p = some (decide (shp xs = p))) :
 ∀ (s : List Int × Bool) (W : World) (bS : Nat) (A : Option Addr) (c : Nat) (xs : List Int), w0.heap.size ≤ bS → Fp 22 3 4 w0 W gl gp gf go (.slice A0 l.length c0) (.slice A1 p.length c1) s → Kd.R (Kd.int .i64) 3 W bS (fun k => ¬ (k = gf ∨ k = go)) (.slice A xs.length c) xs → xs.length = many → (∀ x ∈ xs, 0 ≤ x ∧ x < (l.length : Int)) →
  Calls Try.prog 246 #[.slice A xs.length c, .pointer (some ⟨gl, 0, none⟩), .pointer (some ⟨gp, 0, none⟩), .pointer (some ⟨gf, 0, none⟩), .pointer (some ⟨go, 0, none⟩)] W fun e w' => e = .returned (.bool (decide (shp xs = p))) ∧ Fp 22 3 4 w0 w' gl gp gf go (.slice A0 l.length c0) (.slice A1 p.length c1) (xs, decide (shp xs = p)) ∧ Fr (fun k => k = gf ∨ k = go) W w' := by
 intro s W bS A c xs hbS hC hR hx hq
 obtain ⟨k1, k2, k3, h1, h2, h3⟩ := hres xs hx hq
 obtain ⟨b, hb⟩ : ∃ b, decide (shp xs = p) = b := ⟨_, rfl⟩
 rw [hb] at h3 ⊢
 replace h1 := zk h1
 replace h2 := zk h2
 replace h3 := zk h3
 have HC := zk hC
 have HR := zk hR
 have HL0 := zk hl0
 have HP0 := zk hp0
 clear hC hR hx hq hres hl0 hp0 hb
 go_enter Try.func246, Try.ntmps246
 go_wp2_with (fail)
 refine start_ (n := 7) (S := fun w' => w'.cell? ⟨gl, 0, none⟩ = some (.slice A0 l.length c0) ∧ w'.cell? ⟨gp, 0, none⟩ = some (.slice A1 p.length c1)) (ds := [6]) #[false, false, false, false, false, false, false] (by kernel_rfl) rfl rfl ⟨cell_of_one HC.out.hl, cell_of_one HC.out.hp⟩ (fun hHeld => ?_)
 replace HC := zk (HC.out.below (below_drew (Below.refl _ _)))
 replace HR := zk (zt HR.out)
 have HF := zk (Fr.of_below (S := fun k => k = gf ∨ k = go) (below_drew (Below.refl W.heap.size W)))
 generalize W.drew = w1 at HC HR HF hHeld ⊢
 have HB := zk (Below.refl w1.heap.size w1)
 refine pure_ (i := 1) (N := some 8) (v := ?_) (a' := ?_) #[false, true, false, false, false, false, false] rfl rfl (by kernel_rfl) (fun _ _ _ h => h) (Or.inl ⟨by rfl, ?_⟩) ?_ ?_
 rotate_left
 · intro w'
   go_simp
   with_reducible rfl
 rotate_left
 · simp only [Act.put, List.setIfInBounds_toArray, List.set_cons_zero, List.set_cons_succ, i64_w, i32_w]
   rfl
 refine take_ (i := 0) (N := some 7) (v := ?_) (a' := ?_) #[true, true, false, false, false, false, false] rfl rfl (by kernel_rfl) (fun _ _ _ h => h) (Or.inl ⟨by rfl, ?_⟩) hHeld ?_ ?_
 rotate_left
 · rintro w' ⟨s0, s1⟩
   go_simp
   with_reducible rfl
 rotate_left
 · simp only [Act.put, List.setIfInBounds_toArray, List.set_cons_zero, List.set_cons_succ, i64_w, i32_w]
   rfl
 refine take_ (i := 4) (N := some 11) (v := ?_) (a' := ?_) #[true, true, false, false, true, false, false] rfl rfl (by kernel_rfl) (fun _ _ _ h => h) (Or.inl ⟨by rfl, ?_⟩) hHeld ?_ ?_
 rotate_left
 · rintro w' ⟨s0, s1⟩
   go_simp
   with_reducible rfl
 rotate_left
 · simp only [Act.put, List.setIfInBounds_toArray, List.set_cons_zero, List.set_cons_succ, i64_w, i32_w]
   rfl
 refine one_ (i := 2) (N := some 9) #[true, true, true, false, true, false, false] rfl rfl (by kernel_rfl) (by decide) (fun K hK => ?_)
 refine goes_ Try.func162 (by kernel_rfl) rfl #[.slice A0 l.length c0, .slice A xs.length c] (by rfl) rfl rfl (by simp only [List.map_toArray, List.map_cons, List.map_nil]; rfl) ?_
 with_reducible refine (impl_at.calls k1 A0 c0 l A c xs _ _ (Kd.C_below HL0.out HC.out.hb) hc0 (Kd.R_reads' HR.out).2.2 (Kd.R_reads' HR.out).2.1 h1.out).mono ?_
 rintro e_ w2 ⟨v8, rfl, hR8, hb2⟩
 replace HB := zk (below_step HB.out hb2)
 obtain ⟨A8, c8, e8⟩ := Kd.R_slice hR8
 subst e8
 have HR8 := zk hR8
 clear hR8 hb2
 refine ⟨_, rfl, ?_⟩
 refine hK.out _ _ ⟨cell_of_one (blk_below HC.out.hl HB.out), cell_of_one (blk_below HC.out.hp HB.out)⟩ (fun hHeld => ?_)
 clear hK K
 refine norm_ (a' := ?_) ?_ ?_
 rotate_left
 · show Act.put _ (some 9) _ = _
   simp only [Act.put, List.setIfInBounds_toArray, List.set_cons_zero, List.set_cons_succ, i64_w, i32_w]
   rfl
 refine one_ (i := 3) (N := some 10) #[true, true, true, true, true, false, false] rfl rfl (by kernel_rfl) (by decide) (fun K hK => ?_)
 refine goes_ Try.func161 (by kernel_rfl) rfl #[.slice A8 (atl xs).length c8] (by rfl) rfl rfl (by simp only [List.map_toArray, List.map_cons, List.map_nil]; rfl) ?_
 with_reducible refine (impl_shape.calls k2 A8 c8 (atl xs) _ _ (Kd.R_reads' HR8.out).2.2 (Kd.R_reads' HR8.out).2.1 h2.out).mono ?_
 rintro e_ w3 ⟨v9, rfl, hR9, hb3⟩
 replace HB := zk (below_step HB.out hb3)
 obtain ⟨A9, c9, e9⟩ := Kd.R_slice hR9
 subst e9
 have HR9 := zk hR9
 clear hR9 hb3
 refine ⟨_, rfl, ?_⟩
 refine hK.out _ _ ⟨cell_of_one (blk_below HC.out.hl HB.out), cell_of_one (blk_below HC.out.hp HB.out)⟩ (fun hHeld => ?_)
 clear hK K
 refine norm_ (a' := ?_) ?_ ?_
 rotate_left
 · show Act.put _ (some 10) _ = _
   simp only [Act.put, List.setIfInBounds_toArray, List.set_cons_zero, List.set_cons_succ, i64_w, i32_w]
   rfl
 refine one_ (i := 5) (N := some 12) #[true, true, true, true, true, true, false] rfl rfl (by kernel_rfl) (by decide) (fun K hK => ?_)
 refine goes_ Try.func177 (by kernel_rfl) rfl #[.slice A9 (shp xs).length c9, .slice A1 p.length c1] (by rfl) rfl rfl (by simp only [List.map_toArray, List.map_cons, List.map_nil]; rfl) ?_
 with_reducible refine (slices_Equal_int_int.calls k3 A9 c9 (shp xs) A1 c1 p _ _ (Kd.R_reads' HR9.out).2.2 (Kd.R_reads' HR9.out).2.1 (Kd.C_below HP0.out (HC.out.hb.trans (Go.Proofs.Ytlkddcabjcejdaa.Base.below_below HB.out HC.out.hb.size))) hc1 h3.out).mono ?_
 rintro e_ w4 ⟨rfl, q4, rfl⟩
 refine ⟨_, rfl, ?_⟩
 refine hK.out _ _ ⟨by first | exact hHeld.1 | exact cell_of_one (blk_drewN (blk_below HC.out.hl HB.out) _), by first | exact hHeld.2 | exact cell_of_one (blk_drewN (blk_below HC.out.hp HB.out) _)⟩ (fun hHeld => ?_)
 clear hK K
 refine norm_ (a' := ?_) ?_ ?_
 rotate_left
 · show Act.put _ (some 12) _ = _
   simp only [Act.put, List.setIfInBounds_toArray, List.set_cons_zero, List.set_cons_succ, i64_w, i32_w]
   rfl
 refine last_ (i := 6) (N := none) #[true, true, true, true, true, true, true] rfl rfl (by kernel_rfl) (by decide) (fun K hK => ?_)
 have HB5 := zk (zd HB.out q4)
 have HC5 := zk (HC.out.below HB5.out)
 have HRP := zk (Kd.R_below HR.out HB5.out)
 generalize w3.drewN q4 = w5 at HB5 HC5 HRP hHeld ⊢
 have cf := cell_of_one HC5.out.hf
 have ff := free_of_one HC5.out.hf
 refine skip_ (w1 := ?_) (by rfl) rfl ?_ ?_
 rotate_left
 · go_simp
   rfl
 refine hK.out _ _ ?_
 clear hK K
 refine done_ (by kernel_rfl) ?_
 have HF5 := zk (HF.out.trans (Fr.of_below HB5.out))
 have HF6 := zk (HF5.out.trans (Fr.set (S := fun k => k = gf ∨ k = go) (W := w5) (g := gf) (.inl rfl) 0 (.bool b)))
 have HC6 := zk (HC5.out.putF b)
 have HR6 := zk (Kd.R_far HRP.out (p := ⟨gf, 0, none⟩) (fun k hk e => hk (.inl e)) (.bool b))
 clear hHeld cf ff
 generalize w5.setCell _ _ = w6 at HF6 HC6 HR6 ⊢
 obtain ⟨vo, ho, hRo⟩ := HC6.out.ho
 have co := cell_of_one ho
 have fo := free_of_one ho
 have HC7 := zk (HC6.out.putO (.slice A xs.length c) xs (Kd.R_lower HR6.out hbS))
 have cf := cell_of_one HC7.out.hf
 have HRo := zk hRo
 clear hRo ho
 go_wp2
 go_ret
 exact ⟨rfl, HC7.out, HF6.out.trans (Fr.set (S := fun k => k = gf ∨ k = go) (.inr rfl) _ _)⟩
def fpF (l p : List Int) (s : List Int × Bool) (xs : List Int) : (List Int × Bool) × Bool := ((xs, decide (Go.Proofs.Ytlkddcabjcejdaa.Base.shapeL (atG l xs) = p)), decide (Go.Proofs.Ytlkddcabjcejdaa.Base.shapeL (atG l xs) = p))
def fpG (l p : List Int) : List Int × Bool := (addG (fpF l p) l.length p.length l.length [] ([], false)).1
def fpR (l p : List Int) : List Int × Bool := if (fpG l p).2 = true then ((fpG l p).1, true) else ([], false)
set_option maxHeartbeats 8000000 in
set_option maxRecDepth 100000 in
theorem firstPlaces_calls (A0 : Option Addr) (c0 : Nat) (l0 : List Int) (A1 : Option Addr) (c1 : Nat) (l1 : List Int) (w : World) (hr0 : Kd.C (Kd.int .i64) w A0 l0.length l0) (hc0 : l0.length ≤ c0) (hr1 : Kd.C (Kd.int .i64) w A1 l1.length l1) (hc1 : l1.length ≤ c1) (hl : l0.length ≤ 7) (hp : l1.length ≤ 7) :
 Calls Try.prog 149 #[.slice A0 l0.length c0, .slice A1 l1.length c1] w fun e w' => ∃ v0_ : Value, e = .returned (.tuple #[v0_, .bool (fpR l0 l1).2]) ∧ Kd.R (Kd.int .i64) 3 w' w.heap.size (fun _ => True) v0_ (fpR l0 l1).1 ∧ Below w.heap.size w w' := by
 have hmf : ∀ (fn : Fn) (first cap : Array Value) (w : World), (Instr.makeFunc fn first cap).run Try.prog w = .ok (.func fn first cap) w := fun _ _ _ _ => rfl
 have z1 : ∀ (W : World) (o : Obj), (W.alloc o).heap.size = W.heap.size + 1 := fun W o => by simp
 have hc : Fp 22 3 4 w ((((w.alloc (Obj.cells #[Value.slice A0 l0.length c0] 22)).alloc (Obj.cells #[Value.slice A1 l1.length c1] 22)).alloc (Obj.cells #[Value.slice none 0 0]  22)).alloc (Obj.cells #[Value.bool false]  4)) w.heap.size (w.heap.size + 1) (w.heap.size + 1 + 1 + 1) (w.heap.size + 1 + 1) (.slice A0 l0.length c0) (.slice A1 l1.length c1) ([], false) := by
  refine ⟨?_, ?_, ?_, ⟨.slice none 0 0, ?_, Kd.R_nil _ _ _ _ _⟩, ?_, by omega, by omega, by decide, by omega, by omega⟩
  · exact blk_alloc (blk_alloc (blk_alloc (blk_new w _) _) _) _
  · exact blk_alloc (blk_alloc (by have := blk_new (w.alloc (Obj.cells #[Value.slice A0 l0.length c0] 22)) (Obj.cells #[Value.slice A1 l1.length c1] 22); rwa [z1] at this) _) _
  · have := blk_new (((w.alloc (Obj.cells #[Value.slice A0 l0.length c0] 22)).alloc (Obj.cells #[Value.slice A1 l1.length c1] 22)).alloc (Obj.cells #[Value.slice none 0 0]  22)) (Obj.cells #[Value.bool false]  4)
    rwa [z1, z1, z1] at this
  · exact blk_alloc (by have := blk_new ((w.alloc (Obj.cells #[Value.slice A0 l0.length c0] 22)).alloc (Obj.cells #[Value.slice A1 l1.length c1] 22)) (Obj.cells #[Value.slice none 0 0]  22); rwa [z1, z1] at this) _
  · exact za (za (za (za (Below.refl _ _) _) _) _) _
 have hz : ((((w.alloc (Obj.cells #[Value.slice A0 l0.length c0] 22)).alloc (Obj.cells #[Value.slice A1 l1.length c1] 22)).alloc (Obj.cells #[Value.slice none 0 0]  22)).alloc (Obj.cells #[Value.bool false]  4)).heap.size = w.heap.size + 1 + 1 + 1 + 1 := by rw [z1, z1, z1, z1]
 have H := choose_calls_fp (fpF l0 l1) (fun s W => Fp 22 3 4 w W w.heap.size (w.heap.size + 1) (w.heap.size + 1 + 1 + 1) (w.heap.size + 1 + 1) (.slice A0 l0.length c0) (.slice A1 l1.length c1) s) (fun k => k = w.heap.size + 1 + 1 + 1 ∨ k = w.heap.size + 1 + 1) (.pointer (some ⟨w.heap.size, 0, none⟩)) (.pointer (some ⟨w.heap.size + 1, 0, none⟩)) (.pointer (some ⟨w.heap.size + 1 + 1 + 1, 0, none⟩)) (.pointer (some ⟨w.heap.size + 1 + 1, 0, none⟩)) l0.length l1.length ([], false) _ (fun s W W' h hb => h.below hb)
  (fun s W A c xs hI hsz hR hx hq => by
   refine (firstPlaces_cb l0 l1 A0 A1 c0 c1 w w.heap.size (w.heap.size + 1) (w.heap.size + 1 + 1 + 1) (w.heap.size + 1 + 1) (atG l0) (fun xs => Go.Proofs.Ytlkddcabjcejdaa.Base.shapeL (atG l0 xs)) l1.length hr0 hc0 hr1 hc1 (cp_res l0 l1 hp) s W _ A c xs (by rw [hz]; omega) hI hR hx hq).mono ?_
   rintro e w' ⟨rfl, h1, h2⟩
   exact ⟨rfl, h1, h2⟩) (fun k hk => by rw [hz]; rcases hk with hk | hk <;> omega) (by omega) hc
 have HC := zk hc
 obtain ⟨R, hR⟩ : ∃ R, fpG l0 l1 = R := ⟨_, rfl⟩
 have hRR := hR
 unfold fpG at hRR
 rw [hRR] at H
 unfold fpR
 rw [hR]
 have HH := zk H
 obtain ⟨o, b⟩ := R
 clear H hc hz z1 hr0 hr1 hR hRR
 cases b with
 | true =>
  go_enter Try.func149, Try.ntmps149
  go_wp2_with (go_at_call 159; refine HH.out.mono ?_; rintro e_ w2 ⟨rfl, h1, h2⟩; obtain ⟨v_, ho_, hr_⟩ := h1.ho; have c12 := cell_of_one h1.hf; have c13 := cell_of_one ho_; have HX := zk h1; have HY := zk hr_; clear h1 h2 ho_ hr_)
  go_ret2
  exact ⟨_, rfl, Kd.R_mono HY.out (fun _ _ => trivial), HX.out.hb⟩
 | false =>
  go_enter Try.func149, Try.ntmps149
  go_wp2_with (go_at_call 159; refine HH.out.mono ?_; rintro e_ w2 ⟨rfl, h1, h2⟩; have c12 := cell_of_one h1.hf; have HX := zk h1; clear h1 h2)
  go_ret2
  exact ⟨_, rfl, Kd.R_nil _ _ _ _ _, HX.out.hb⟩
def impl_firstPlaces.f (l0 : List Int) (l1 : List Int) : Option (List Int × Bool) := if l0.length ≤ 7 ∧ l1.length ≤ 7 then some (fpR l0 l1) else none
theorem impl_firstPlaces.calls (A0 : Option Addr) (c0 : Nat) (l0 : List Int) (A1 : Option Addr) (c1 : Nat) (l1 : List Int) (r1 : List Int) (r2 : Bool) (w : World) (hr0 : Kd.C (Kd.int .i64) w A0 l0.length l0) (hc0 : l0.length ≤ c0) (hr1 : Kd.C (Kd.int .i64) w A1 l1.length l1) (hc1 : l1.length ≤ c1) (h : impl_firstPlaces.f l0 l1 = some (r1, r2)) :
 Calls Try.prog 149 #[.slice A0 l0.length c0, .slice A1 l1.length c1] w fun e w' => ∃ v0_ : Value, e = .returned (.tuple #[v0_, .bool r2]) ∧ Kd.R (Kd.int .i64) 3 w' w.heap.size (fun _ => True) v0_ r1 ∧ Below w.heap.size w w' := by
 unfold impl_firstPlaces.f at h
 by_cases hl : l0.length ≤ 7 ∧ l1.length ≤ 7
 · rw [if_pos hl] at h
   have h := Option.some.inj h
   have H := firstPlaces_calls A0 c0 l0 A1 c1 l1 w hr0 hc0 hr1 hc1 hl.1 hl.2
   rw [h] at H
   exact H
 · rw [if_neg hl] at h; cases h
end

/-! ### impl_BadTriple: function 25 -/
section
open Go.Proofs.Ytlkddcabjcejdaa.Base
set_option maxHeartbeats 8000000 in
set_option maxRecDepth 100000 in
theorem badimpl_no (k : Nat) (A0 : Option Addr) (c0 : Nat) (l0 : List Int) (w : World) (hr0 : Kd.C (Kd.int .i64) w A0 l0.length l0) (hc0 : l0.length ≤ c0) (ho : impl_isOrder.f k l0 = some false) :
 Calls Try.prog 25 #[.slice A0 l0.length c0] w fun e w' => e = .returned (.tuple #[.agg #[.int .i64 0, .int .i64 0, .int .i64 0], .bool false]) ∧ Below w.heap.size w w' := by
 have HR0 := zk hr0
 have HO := zk ho
 have HB := zk (za (Below.refl w.heap.size w) (Obj.cells #[.int .i64 0, .int .i64 0, .int .i64 0] 34))
 have HK := zk (blk_new w (Obj.cells #[.int .i64 0, .int .i64 0, .int .i64 0] 34))
 clear hr0 ho
 go_enter Try.func25, Try.ntmps25
 go_wp2_with (go_at_call 146; refine (impl_isOrder.calls k A0 c0 l0 false _ (Kd.C_below HR0.out HB.out) hc0 HO.out).mono ?_; rintro e_ w2 ⟨rfl, hd⟩; replace HB := zk (below_step HB.out hd.below); replace HK := zk (blk_below HK.out hd.below); clear hd; have cb0 := blk_cell HK.out 0; have cb1 := blk_cell HK.out 1; have cb2 := blk_cell HK.out 2; have fb0 := blk_frozen HK.out 0; have fb1 := blk_frozen HK.out 1; have fb2 := blk_frozen HK.out 2)
 have HK3 := blk_set (blk_set (blk_set HK.out 0 (.int .i64 0)) 1 (.int .i64 0)) 2 (.int .i64 0)
 refine bodyPost_ret (results_ct rfl _ _ w.heap.size 34 #[.int .i64 0, .int .i64 0, .int .i64 0] (0, 0) _ rfl HK3 Try.underlying34 rfl (by kernel_rfl)) rfl ⟨?_, below_set (below_set (below_set HB.out (Nat.le_refl _)) (Nat.le_refl _)) (Nat.le_refl _)⟩
 rfl
set_option maxHeartbeats 8000000 in
set_option maxRecDepth 100000 in
theorem badimpl_none (k : Nat) (A0 : Option Addr) (c0 : Nat) (l0 ps : List Int) (w : World) (hr0 : Kd.C (Kd.int .i64) w A0 l0.length l0) (hc0 : l0.length ≤ c0) (ho : impl_isOrder.f k l0 = some true) (hp : impl_firstPlaces.f l0 [2, 3, 1] = some (ps, false)) :
 Calls Try.prog 25 #[.slice A0 l0.length c0] w fun e w' => e = .returned (.tuple #[.agg #[.int .i64 0, .int .i64 0, .int .i64 0], .bool false]) ∧ Below w.heap.size w w' := by
 have HR0 := zk hr0
 have HO := zk ho
 have HP := zk hp
 have HB := zk (za (Below.refl w.heap.size w) (Obj.cells #[.int .i64 0, .int .i64 0, .int .i64 0] 34))
 have HK := zk (blk_new w (Obj.cells #[.int .i64 0, .int .i64 0, .int .i64 0] 34))
 clear hr0 ho hp
 go_enter Try.func25, Try.ntmps25
 go_wp2_with (first | (go_at_call 146; refine (impl_isOrder.calls k A0 c0 l0 true _ (Kd.C_below HR0.out HB.out) hc0 HO.out).mono ?_; rintro e_ w2 ⟨rfl, hd⟩; replace HB := zk (below_step HB.out hd.below); replace HK := zk (blk_below HK.out hd.below); clear hd) | ((with_reducible refine gate_dst (N := 12) rfl ?_); refine Kd.R_lit (Kd.int .i64) _ 3 ?hg (N := 12) ?hd (xs := ([2, 3, 1] : List Int)) (inner := [.int .i64 2, .int .i64 3, .int .i64 1]) (ok := fun _ => True) (okp := fun _ => True) ?hr ?hp (fun _ hk => hk) trivial (Below.refl _ _) (Nat.le_refl _) (by simp) ?_; (case hd => rfl); (case hg => rfl); (case hr => first | (go_simp; done) | (go_simp; rfl)); (case hp => exact (Reps.one (show Kd.M (Kd.int .i64) _ _ _ 2 [.int .i64 2] from rfl) (Reps.one (show Kd.M (Kd.int .i64) _ _ _ 3 [.int .i64 3] from rfl) (Reps.one (show Kd.M (Kd.int .i64) _ _ _ 1 [.int .i64 1] from rfl) (Reps.none _ _))))); intro v12 w3 ho3 hb3 hg_ hnew_; clear hg_ hnew_; replace HB := zk (below_step HB.out hb3); replace HK := zk (blk_below HK.out hb3); obtain ⟨A12, c12, e12⟩ := Kd.R_slice ho3; subst e12; have HP12 := zk ho3; clear ho3 hb3) | (go_at_call 149; refine (impl_firstPlaces.calls A0 c0 l0 A12 c12 [2, 3, 1] ps false _ (Kd.C_below HR0.out HB.out) hc0 (Kd.R_reads' HP12.out).2.2 (Kd.R_reads' HP12.out).2.1 HP.out).mono ?_; rintro e_ w4 ⟨v4, rfl, hr4, hb4⟩; replace HB := zk (below_step HB.out hb4); replace HK := zk (blk_below HK.out hb4); clear hr4 hb4 HP12; have cb0 := blk_cell HK.out 0; have cb1 := blk_cell HK.out 1; have cb2 := blk_cell HK.out 2; have fb0 := blk_frozen HK.out 0; have fb1 := blk_frozen HK.out 1; have fb2 := blk_frozen HK.out 2))
 have HK3 := blk_set (blk_set (blk_set HK.out 0 (.int .i64 0)) 1 (.int .i64 0)) 2 (.int .i64 0)
 refine bodyPost_ret (results_ct rfl _ _ w.heap.size 34 #[.int .i64 0, .int .i64 0, .int .i64 0] (0, 0) _ rfl HK3 Try.underlying34 rfl (by kernel_rfl)) rfl ⟨?_, below_set (below_set (below_set HB.out (Nat.le_refl _)) (Nat.le_refl _)) (Nat.le_refl _)⟩
 rfl
set_option maxHeartbeats 8000000 in
set_option maxRecDepth 100000 in
theorem badimpl_some (k : Nat) (A0 : Option Addr) (c0 : Nat) (l0 : List Int) (p0 p1 p2 : Int) (w : World) (hr0 : Kd.C (Kd.int .i64) w A0 l0.length l0) (hc0 : l0.length ≤ c0) (ho : impl_isOrder.f k l0 = some true) (hp : impl_firstPlaces.f l0 [2, 3, 1] = some ([p0, p1, p2], true)) :
 Calls Try.prog 25 #[.slice A0 l0.length c0] w fun e w' => e = .returned (.tuple #[.agg #[.int .i64 p0, .int .i64 p1, .int .i64 p2], .bool true]) ∧ Below w.heap.size w w' := by
 have HR0 := zk hr0
 have HO := zk ho
 have HP := zk hp
 have HB := zk (za (Below.refl w.heap.size w) (Obj.cells #[.int .i64 0, .int .i64 0, .int .i64 0] 34))
 have HK := zk (blk_new w (Obj.cells #[.int .i64 0, .int .i64 0, .int .i64 0] 34))
 clear hr0 ho hp
 have hat : ∀ (a : Addr) (c : Nat) (W : World), (Instr.arrayAt 34 (.slice (some a) 3 c)).run Try.prog W = .ok (.pointer (some a)) W := fun a c W => by simp [Instr.arrayAt, run_underlying Try.underlying34]
 go_enter Try.func25, Try.ntmps25
 go_wp2_with (first | (go_at_call 146; refine (impl_isOrder.calls k A0 c0 l0 true _ (Kd.C_below HR0.out HB.out) hc0 HO.out).mono ?_; rintro e_ w2 ⟨rfl, hd⟩; replace HB := zk (below_step HB.out hd.below); replace HK := zk (blk_below HK.out hd.below); clear hd) | ((with_reducible refine gate_dst (N := 12) rfl ?_); refine Kd.R_lit (Kd.int .i64) _ 3 ?hg (N := 12) ?hd (xs := ([2, 3, 1] : List Int)) (inner := [.int .i64 2, .int .i64 3, .int .i64 1]) (ok := fun _ => True) (okp := fun _ => True) ?hr ?hp (fun _ hk => hk) trivial (Below.refl _ _) (Nat.le_refl _) (by simp) ?_; (case hd => rfl); (case hg => rfl); (case hr => first | (go_simp; done) | (go_simp; rfl)); (case hp => exact (Reps.one (show Kd.M (Kd.int .i64) _ _ _ 2 [.int .i64 2] from rfl) (Reps.one (show Kd.M (Kd.int .i64) _ _ _ 3 [.int .i64 3] from rfl) (Reps.one (show Kd.M (Kd.int .i64) _ _ _ 1 [.int .i64 1] from rfl) (Reps.none _ _))))); intro v12 w3 ho3 hb3 hg_ hnew_; clear hg_ hnew_; replace HB := zk (below_step HB.out hb3); replace HK := zk (blk_below HK.out hb3); obtain ⟨A12, c12, e12⟩ := Kd.R_slice ho3; subst e12; have HP12 := zk ho3; clear ho3 hb3) | (go_at_call 149; refine (impl_firstPlaces.calls A0 c0 l0 A12 c12 [2, 3, 1] [p0, p1, p2] true _ (Kd.C_below HR0.out HB.out) hc0 (Kd.R_reads' HP12.out).2.2 (Kd.R_reads' HP12.out).2.1 HP.out).mono ?_; rintro e_ w4 ⟨v4, rfl, hr4, hb4⟩; replace HB := zk (below_step HB.out hb4); replace HK := zk (blk_below HK.out hb4); obtain ⟨g4, c4, e4, _, _, _⟩ := Kd.R_form hr4 (by simp); subst e4; have q0 := (Kd.R_cell (0 : Int) hr4 0 (by decide) (by simp)).1; have q1 := (Kd.R_cell (0 : Int) hr4 1 (by decide) (by simp)).1; have q2 := (Kd.R_cell (0 : Int) hr4 2 (by decide) (by simp)).1; (try simp [rdOf] at q0); (try simp [rdOf] at q1); (try simp [rdOf] at q2); have HR4 := zk hr4; clear hr4 hb4 HP12; have cb0 := blk_cell HK.out 0; have cb1 := blk_cell HK.out 1; have cb2 := blk_cell HK.out 2; have fb0 := blk_frozen HK.out 0; have fb1 := blk_frozen HK.out 1; have fb2 := blk_frozen HK.out 2))
 have HK3 := blk_set (blk_set (blk_set HK.out 0 (.int .i64 p0)) 1 (.int .i64 p1)) 2 (.int .i64 p2)
 refine bodyPost_ret (results_ct rfl _ _ w.heap.size 34 #[.int .i64 p0, .int .i64 p1, .int .i64 p2] (0, 0) _ rfl HK3 Try.underlying34 rfl (by kernel_rfl)) rfl ⟨?_, below_set (below_set (below_set HB.out (Nat.le_refl _)) (Nat.le_refl _)) (Nat.le_refl _)⟩
 rfl
def impl_BadTriple.f (k : Nat) (l0 : List Int) : Option ((Int × Int × Int) × Bool) := (impl_isOrder.f k l0).bind fun b => if b = true then ((impl_firstPlaces.f l0 [2, 3, 1]).bind fun q => match q with
 | ([p0, p1, p2], true) => some ((p0, p1, p2), true)
 | (_, true) => none
 | (_, false) => some ((0, 0, 0), false)) else some ((0, 0, 0), false)
theorem impl_BadTriple.calls (k : Nat) (A0 : Option Addr) (c0 : Nat) (l0 : List Int) (r1 r2 r3 : Int) (r4 : Bool) (w : World) (hr0 : Kd.C (Kd.int .i64) w A0 l0.length l0) (hc0 : l0.length ≤ c0) (h : impl_BadTriple.f k l0 = some ((r1, r2, r3), r4)) :
 Calls Try.prog 25 #[.slice A0 l0.length c0] w fun e w' => e = .returned (.tuple #[.agg #[.int .i64 r1, .int .i64 r2, .int .i64 r3], .bool r4]) ∧ Below w.heap.size w w' := by
 unfold impl_BadTriple.f at h
 obtain ⟨b, hb, h⟩ := Option.bind_eq_some_iff.1 h
 cases b with
 | false =>
  rw [if_neg (by decide)] at h
  simp only [Option.some.injEq, Prod.mk.injEq] at h
  obtain ⟨⟨rfl, rfl, rfl⟩, rfl⟩ := h
  exact badimpl_no k A0 c0 l0 w hr0 hc0 hb
 | true =>
  rw [if_pos rfl] at h
  obtain ⟨q, hq, h⟩ := Option.bind_eq_some_iff.1 h
  obtain ⟨ps, ok⟩ := q
  cases ok with
  | false =>
   have h2 : some ((((0 : Int), (0 : Int), (0 : Int)), false)) = some ((r1, r2, r3), r4) := by
    rcases ps with _ | ⟨x, _ | ⟨y, _ | ⟨z, _ | ⟨u, t⟩⟩⟩⟩ <;> exact h
   simp only [Option.some.injEq, Prod.mk.injEq] at h2
   obtain ⟨⟨rfl, rfl, rfl⟩, rfl⟩ := h2
   exact badimpl_none k A0 c0 l0 ps w hr0 hc0 hb hq
  | true =>
   rcases ps with _ | ⟨x, _ | ⟨y, _ | ⟨z, _ | ⟨u, t⟩⟩⟩⟩
   · cases h
   · cases h
   · cases h
   · have h := Option.some.inj h
     simp only [Prod.mk.injEq] at h
     obtain ⟨⟨rfl, rfl, rfl⟩, rfl⟩ := h
     exact badimpl_some k A0 c0 l0 x y z w hr0 hc0 hb hq
   · cases h
end

/-! ### laws_rBig: function 31 -/
def laws_rBig.f (l0 : List Int) : Option (Bool) := some (decide ((l0.length : Int) > 65536))
set_option maxHeartbeats 8000000 in
set_option maxRecDepth 100000 in
theorem laws_rBig.calls (A0 : Option Addr) (c0 : Nat) (l0 : List Int) (r : Bool) (w : World) (hr0 : Kd.C (Kd.int .u8) w A0 l0.length l0) (hc0 : l0.length ≤ c0) (h : laws_rBig.f l0 = some r) :
 Calls Try.prog 31 #[.slice A0 l0.length c0] w fun e w' => e = .returned (.bool r) ∧ Drawn0 w w' := by
 have HR0 := zk hr0
 have HC0 := zk hc0
 clear hr0 hc0
 have H : (some (decide ((l0.length : Int) > 65536))) = some r := h
 clear h
 obtain rfl := Option.some.inj H
 go_enter Try.func31, Try.ntmps31
 go_wp2
 go_ret
 exact ⟨by first | rfl | (simp; done) | (simp [*]; done), by repeat (first | exact Drawn0.refl _ | apply Drawn0.step)⟩

/-! ### laws_rInts: function 39 -/
def laws_rInts.l0 : Nat → List Int → List Int → Int → Option (Bool)
 | 0, _, _, _ => none
 | k + 1, x0, x1, x5 => if x5 < (x0.length : Int) then (if 0 ≤ x5 then (if x5 < (x1.length : Int) then (if (rd x0 x5) = (rd x1 x5) then (laws_rInts.l0 k x0 x1 (wrap64 (x5 + 1))) else (some false)) else (none)) else (none)) else (some true)
def laws_rInts.f (k : Nat) (l0 : List Int) (l1 : List Int) : Option (Bool) := if (l0.length : Int) = (l1.length : Int) then (laws_rInts.l0 k l0 l1 0) else (some false)
set_option maxHeartbeats 8000000 in
set_option maxRecDepth 100000 in
theorem laws_rInts.calls (k : Nat) (A0 : Option Addr) (c0 : Nat) (l0 : List Int) (A1 : Option Addr) (c1 : Nat) (l1 : List Int) (r : Bool) (w : World) (hr0 : Kd.C (Kd.int .i64) w A0 l0.length l0) (hc0 : l0.length ≤ c0) (hr1 : Kd.C (Kd.int .i64) w A1 l1.length l1) (hc1 : l1.length ≤ c1) (h : laws_rInts.f k l0 l1 = some r) :
 Calls Try.prog 39 #[.slice A0 l0.length c0, .slice A1 l1.length c1] w fun e w' => e = .returned (.bool r) ∧ Drawn0 w w' := by
 have HR0 := zk hr0
 have HC0 := zk hc0
 clear hr0 hc0
 have HR1 := zk hr1
 have HC1 := zk hc1
 clear hr1 hc1
 have H : (if (l0.length : Int) = (l1.length : Int) then (laws_rInts.l0 k l0 l1 0) else (some false)) = some r := h
 clear h
 by_cases c3 : (l0.length : Int) = (l1.length : Int)
 · rw [if_pos c3] at H
   have c3b0 : ((l0.length : Int) == (l1.length : Int)) = true := beq_iff_eq.mpr c3
   have c3b1 : ((l0.length : Int) != (l1.length : Int)) = false := bne_eq_false_iff_eq.mpr c3
   have c3b2 : (l0.length == l1.length) = true := by first | simpa using c3 | (simp at c3 ⊢; omega)
   clear c3
   have H' := zk H
   clear H
   go_enter Try.func39, Try.ntmps39
   go_wp2
   repeat (go_quiet (fail); try go_wp2)
   go_loopg [5] k (fun kq v5 w' => ∃ (x5_1 : Int), v5 = .int .i64 x5_1 ∧ Aside0 (laws_rInts.l0 kq l0 l1 x5_1 = some r) ∧ Aside0 (kq ≤ k) ∧ Drawn0 w w')
   case atStart => exact ⟨(0), (by first | rfl | (simp; done) | (simp [*]; done)), H', ⟨Nat.le_refl _⟩, by repeat (first | exact Drawn0.refl _ | apply Drawn0.step)⟩
   case round =>
    clear H'
    try clear c1
    try clear p2
    try clear c3
    try clear c3b0
    try clear c3b1
    try clear c3b2
    obtain ⟨x5_1, rfl, HA, HK1, ⟨m1, rfl⟩⟩ := hrel
    cases gk with
    | zero => exact absurd HA.out (by simp [laws_rInts.l0])
    | succ k1 =>
     have H := HA.out
     clear HA
     simp only [laws_rInts.l0] at H
     by_cases c4 : x5_1 < (l0.length : Int)
     · rw [if_pos c4] at H
       have c4b0 : decide (x5_1 < (l0.length : Int)) = true := decide_eq_true c4
       clear c4
       by_cases c5 : 0 ≤ x5_1
       · rw [if_pos c5] at H
         have c5b0 : decide (0 ≤ x5_1) = true := decide_eq_true c5
         clear c5
         by_cases c6 : x5_1 < (l1.length : Int)
         · rw [if_pos c6] at H
           have c6b0 : decide (x5_1 < (l1.length : Int)) = true := decide_eq_true c6
           clear c6
           by_cases c7 : (rd l0 x5_1) = (rd l1 x5_1)
           · rw [if_pos c7] at H
             have c7b0 : ((rd l0 x5_1) == (rd l1 x5_1)) = true := beq_iff_eq.mpr c7
             have c7b1 : ((rd l0 x5_1) != (rd l1 x5_1)) = false := bne_eq_false_iff_eq.mpr c7
             clear c7
             have H' := zk H
             clear H
             have p137 : 0 ≤ (x5_1 : Int) := zo (by assumption)
             have q137 : x5_1 < (l0.length : Int) := zo (by assumption)
             obtain ⟨ad137, e137, hx137_0⟩ := Kd.at_int HR0.out x5_1 p137 q137
             cases e137
             replace p137 := eq_true p137
             replace q137 := eq_true q137
             have p138 : 0 ≤ (x5_1 : Int) := zo (by assumption)
             have q138 : x5_1 < (l1.length : Int) := zo (by assumption)
             obtain ⟨ad138, e138, hx138_0⟩ := Kd.at_int HR1.out x5_1 p138 q138
             cases e138
             replace p138 := eq_true p138
             replace q138 := eq_true q138
             go_wp2
             repeat (go_quiet (fail); try go_wp2)
             go_roundg k1
             case measure => have := HK1.out; omega
             case rel => exact ⟨(wrap64 (x5_1 + 1)), (by first | rfl | (simp; done) | (simp [*]; done)), H', ⟨by have := HK1.out; omega⟩, by repeat (first | exact Drawn0.refl _ | apply Drawn0.step)⟩
           · rw [if_neg c7] at H
             have c7b0 : ((rd l0 x5_1) == (rd l1 x5_1)) = false := beq_eq_false_iff_ne.mpr c7
             have c7b1 : ((rd l0 x5_1) != (rd l1 x5_1)) = true := bne_iff_ne.mpr c7
             obtain rfl := Option.some.inj H
             have p137 : 0 ≤ (x5_1 : Int) := zo (by assumption)
             have q137 : x5_1 < (l0.length : Int) := zo (by assumption)
             obtain ⟨ad137, e137, hx137_0⟩ := Kd.at_int HR0.out x5_1 p137 q137
             cases e137
             replace p137 := eq_true p137
             replace q137 := eq_true q137
             have p138 : 0 ≤ (x5_1 : Int) := zo (by assumption)
             have q138 : x5_1 < (l1.length : Int) := zo (by assumption)
             obtain ⟨ad138, e138, hx138_0⟩ := Kd.at_int HR1.out x5_1 p138 q138
             cases e138
             replace p138 := eq_true p138
             replace q138 := eq_true q138
             go_wp2
             repeat (go_quiet (fail); try go_wp2)
             go_ret
             exact ⟨by first | rfl | (simp; done) | (simp [*]; done), by repeat (first | exact Drawn0.refl _ | apply Drawn0.step)⟩
         · rw [if_neg c6] at H
           exact absurd H (by simp)
       · rw [if_neg c5] at H
         exact absurd H (by simp)
     · rw [if_neg c4] at H
       have c4b0 : decide (x5_1 < (l0.length : Int)) = false := decide_eq_false c4
       clear c4
       obtain rfl := Option.some.inj H
       go_wp2
       repeat (go_quiet (fail); try go_wp2)
       go_ret
       exact ⟨by first | rfl | (simp; done) | (simp [*]; done), by repeat (first | exact Drawn0.refl _ | apply Drawn0.step)⟩
 · rw [if_neg c3] at H
   have c3b0 : ((l0.length : Int) == (l1.length : Int)) = false := beq_eq_false_iff_ne.mpr c3
   have c3b1 : ((l0.length : Int) != (l1.length : Int)) = true := bne_iff_ne.mpr c3
   have c3b2 : (l0.length == l1.length) = false := by first | simpa using c3 | (simp at c3 ⊢; omega)
   obtain rfl := Option.some.inj H
   go_enter Try.func39, Try.ntmps39
   go_wp2
   repeat (go_quiet (fail); try go_wp2)
   go_ret
   exact ⟨by first | rfl | (simp; done) | (simp [*]; done), by repeat (first | exact Drawn0.refl _ | apply Drawn0.step)⟩

end Go.Proofs.Ytlkddcabjcejdaa.MFnOneStack
