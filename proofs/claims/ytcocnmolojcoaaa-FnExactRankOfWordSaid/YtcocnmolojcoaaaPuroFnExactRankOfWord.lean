/- The pure statement of FnExactRankOfWord: program and reference rank every text alike. No condition. -/
import Derived.Test.YtcocnmolojcoaaaMFnExactRankOfWordx2
import Derived.Test.YtcocnmolojcoaaaBase
import Derived.Test.YtcocnmolojcoaaaBaseC
namespace Go.Proofs.Ytcocnmolojcoaaa.Pure
open Go.RowKit Go.Proofs.Ytcocnmolojcoaaa.MFnExactRankOfWord Go.Proofs.YtcocnmolojcoaaaW.PrintWords Go.Proofs.Ytcocnmolojcoaaa.Base
set_option linter.unusedVariables false
set_option linter.unusedSimpArgs false
/-! ### Is it an order? -/
theorem in_ev (a b c : Int) : Ev (fun _ => spec_l1In.f a b c) (decide (b ≤ a) && decide (a ≤ c)) := by
  unfold spec_l1In.f
  by_cases h : a ≥ b
  · refine ev_pos h (ev_now ?_)
    have : decide (b ≤ a) = true := decide_eq_true h
    rw [this]; rfl
  · refine ev_neg h (ev_now ?_)
    have : decide (b ≤ a) = false := decide_eq_false (by omega)
    rw [this]; rfl

/-! ### Is it a word? How deep? -/
theorem spec_word_l (w : ByteArray) (hw : w.size ≤ 140737488351232) : ∀ (suf pre : List Int) (d : Int), bytesOf w = pre ++ suf → 0 ≤ d → d ≤ pre.length → Ev (fun k => spec_l2Word.l0 k w d (pre.length : Int)) (wGo suf d) := by
  intro suf
  induction suf with
  | nil =>
    intro pre d e h0 h1
    have h := size_end e
    refine ev_succ ?_
    simp only [spec_l2Word.l0.eq_2]
    exact ev_neg (by omega) (ev_now rfl)
  | cons c suf ih =>
    intro pre d e h0 h1
    have h := size_mid e
    refine ev_succ ?_
    simp only [spec_l2Word.l0.eq_2, bt_mid e]
    refine ev_pos (by omega) (ev_pos (by omega) ?_)
    by_cases hI : c = 73
    · refine ev_pos hI ?_
      rw [wrap_snoc (pre := pre) (c := c) (by omega), wrap_of (x := d + 1) (by omega) (by omega)]
      refine ev_eq (ih _ (d + 1) (snoc_mid e) (by omega) (by simp; omega)) ?_
      simp only [wGo]; rw [if_pos hI]
    · refine ev_neg hI ?_
      by_cases hO : c = 79
      · refine ev_pos hO ?_
        by_cases hd : d > 0
        · refine ev_pos hd ?_
          rw [wrap_snoc (pre := pre) (c := c) (by omega), wrap_of (x := d - 1) (by omega) (by omega)]
          refine ev_eq (ih _ (d - 1) (snoc_mid e) (by omega) (by simp; omega)) ?_
          simp only [wGo]; rw [if_neg hI, if_pos hO, if_pos hd]
        · refine ev_neg hd (ev_now ?_)
          simp only [wGo]; rw [if_neg hI, if_pos hO, if_neg hd]
      · refine ev_neg hO (ev_now ?_)
        simp only [wGo]; rw [if_neg hI, if_neg hO]
theorem spec_word_ev (w : ByteArray) (n : Int) (hw : w.size ≤ 140737488351232) (h0 : 0 ≤ n) (h1 : n ≤ 140737488351232) : Ev (fun k => spec_l2Word.f k w n) (decide ((w.size : Int) = 2 * n) && wGo (bytesOf w) 0) := by
  unfold spec_l2Word.f
  rw [wrap_of (by omega) (by omega)]
  by_cases h : (w.size : Int) = 2 * n
  · refine ev_pos h (ev_eq (spec_word_l w hw (bytesOf w) [] 0 rfl (by omega) (by simp)) ?_)
    simp [h]
  · exact ev_neg h (ev_now (by simp [h]))

theorem spec_any_ev (w : ByteArray) (hw : w.size ≤ 140737488351232) : Ev (fun k => spec_l2Any.f k w) (isWd (bytesOf w)) := by
  unfold spec_l2Any.f
  refine ev_bind (in_ev _ _ _) ?_
  have hb := bytes_len w
  by_cases h : 2 ≤ w.size ∧ w.size ≤ 14
  · refine ev_pos (by simp; omega) ?_
    rw [wrap_of (by omega) (by omega)]
    refine ev_bind (spec_word_ev w ((w.size : Int) / 2) hw (by omega) (by omega)) (ev_now ?_)
    unfold isWd
    rw [hb]
    by_cases hg : wGo (bytesOf w) 0 = true
    · have := wGo_even _ _ hg
      rw [hb] at this
      have e : (w.size : Int) = 2 * ((w.size : Int) / 2) := by omega
      simp [hg, h.1, h.2, ← e]
    · simp [hg]
  · refine ev_neg (by simp; omega) (ev_now ?_)
    unfold isWd
    rw [hb]
    by_cases h2 : 2 ≤ w.size
    · have : ¬ w.size ≤ 14 := fun h3 => h ⟨h2, h3⟩
      simp [this]
    · simp [h2]

theorem isSize_ev (n : Int) : Ev (fun _ => impl_isSize.f n) (decide (1 ≤ n) && decide (n ≤ 7)) := by
  unfold impl_isSize.f
  by_cases h : n ≥ 1
  · refine ev_pos h (ev_now ?_)
    have : decide (1 ≤ n) = true := decide_eq_true h
    rw [this]; rfl
  · refine ev_neg h (ev_now ?_)
    have : decide (1 ≤ n) = false := decide_eq_false (by omega)
    rw [this]; rfl

theorem depth_l (w : ByteArray) (hw : w.size ≤ 140737488351232) : ∀ (suf pre : List Int) (d m : Int), bytesOf w = pre ++ suf → 0 ≤ d → d ≤ pre.length → Ev (fun k => impl_depthOf.l0 k w d m (w.size : Int) (pre.length : Int)) (if wGo suf d = true ∧ 2 ≤ w.size ∧ w.size ≤ 15 then (wDeep suf d m, true) else (0, false)) := by
  intro suf
  induction suf with
  | nil =>
    intro pre d m e h0 h1
    have h := size_end e
    refine ev_succ ?_
    simp only [impl_depthOf.l0.eq_2]
    refine ev_neg (by omega) ?_
    by_cases hd : d = 0
    · refine ev_pos hd ?_
      rw [wrap_of (by omega) (by omega)]
      refine ev_bind (isSize_ev _) ?_
      by_cases hs : 2 ≤ w.size ∧ w.size ≤ 15
      · refine ev_pos (by simp; omega) (ev_now ?_)
        rw [if_pos ⟨by simp [wGo, hd], hs.1, hs.2⟩]; rfl
      · refine ev_neg (by simp; omega) (ev_now ?_)
        rw [if_neg (fun h => hs h.2)]
    · refine ev_neg hd (ev_now ?_)
      rw [if_neg (fun h => hd (by simpa [wGo] using h.1))]
  | cons c suf ih =>
    intro pre d m e h0 h1
    have h := size_mid e
    refine ev_succ ?_
    simp only [impl_depthOf.l0.eq_2, bt_mid e]
    refine ev_pos (by omega) (ev_pos (by omega) (ev_pos (by omega) ?_))
    rw [wrap_snoc (pre := pre) (c := c) (by omega), wrap_of (x := d + 1) (by omega) (by omega), wrap_of (x := d - 1) (by omega) (by omega)]
    by_cases hI : c = 73
    · refine ev_pos hI (ev_neg (by omega) ?_)
      refine ev_eq (ih _ (d + 1) _ (snoc_mid e) (by omega) (by simp; omega)) ?_
      subst hI; rw [wGo_in, wDeep_in]
    · refine ev_neg hI ?_
      by_cases hO : c = 79
      · refine ev_pos hO ?_
        by_cases hd : d > 0
        · refine ev_neg (by omega) ?_
          refine ev_eq (ih _ (d - 1) _ (snoc_mid e) (by omega) (by simp; omega)) ?_
          subst hO; rw [wGo_out, wDeep_out, if_pos hd]
        · refine ev_pos (by omega) (ev_now ?_)
          rw [if_neg]; simp only [wGo]; rw [if_neg hI, if_pos hO, if_neg hd]; simp
      · refine ev_neg hO (ev_now ?_)
        rw [if_neg]; simp only [wGo]; rw [if_neg hI, if_neg hO]; simp
theorem depth_ev (w : ByteArray) (hw : w.size ≤ 140737488351232) : Ev (fun k => impl_depthOf.f k w) (if isWd (bytesOf w) = true then (wDeep (bytesOf w) 0 0, true) else (0, false)) := by
  unfold impl_depthOf.f
  refine ev_eq (depth_l w hw (bytesOf w) [] 0 0 rfl (by omega) (by simp)) ?_
  have hb := bytes_len w
  by_cases h : isWd (bytesOf w) = true
  · have h' := (isWd_iff _).1 h
    rw [hb] at h'
    rw [if_pos h, if_pos ⟨h'.2, h'.1.1, by omega⟩]
  · rw [if_neg h, if_neg]
    intro ⟨h1, h2, h3⟩
    have := wGo_even _ _ h1
    rw [hb] at this
    exact h ((isWd_iff _).2 ⟨by rw [hb]; omega, h1⟩)

theorem isWord_ev (w : ByteArray) (hw : w.size ≤ 140737488351232) : Ev (fun k => impl_isWord.f k w) (isWd (bytesOf w)) := by
  unfold impl_isWord.f
  refine ev_bind (depth_ev w hw) (ev_now ?_)
  by_cases h : isWd (bytesOf w) = true
  · rw [if_pos h, h]
  · rw [if_neg h]; simpa using h

/-! ### The reference's count of what goes on -/
theorem ends_tab : ∀ i : Fin 16, ∀ j : Fin 15, spec_l4Ends.f 300 ((i.val : Nat) : Int) ((j.val : Nat) : Int) = some ((endsT i.val j.val : Nat) : Int) := by decide +kernel
theorem ends_ev (i j : Nat) (hi : i ≤ 15) (hj : j ≤ 14) : Ev (fun k => spec_l4Ends.f k (i : Int) (j : Int)) ((endsT i j : Nat) : Int) :=
  Ev.of (fun k => spec_l4Ends.mono _ _ k) (ends_tab ⟨i, by omega⟩ ⟨j, by omega⟩)
/-- Behind 'I': b - a + 1 numbers on the stack, a + b - 1 signs left. -/
theorem endsT_in (a b : Nat) (hab : a ≤ b) (h : 0 < a + b) : endsT (b - a + 1) (a + b - 1) = if a > 0 then cw (a + b - 1) (a - 1) b else 0 := by
  unfold endsT
  by_cases ha : a > 0
  · rw [if_pos ⟨by omega, by omega⟩, if_pos ha]
    congr 1 <;> omega
  · rw [if_neg (fun h => by omega), if_neg ha]

/-! ### The program's count of what goes on -/
theorem cw_ev : ∀ (r a b : Nat), a + b = r → a ≤ b → r ≤ 14 → Ev (fun k => impl_countWords.f k (a : Int) (b : Int)) ((cw r a b : Nat) : Int) := by
  intro r
  induction r with
  | zero =>
    intro a b h1 h2 h3
    refine ev_succ ?_
    simp only [impl_countWords.f.eq_2]
    exact ev_pos (by omega) (ev_now (by simp [cw]))
  | succ r ih =>
    intro a b h1 h2 h3
    refine ev_succ ?_
    simp only [impl_countWords.f.eq_2]
    by_cases ha : a = 0
    · refine ev_pos (by omega) (ev_now ?_)
      subst ha
      have : b = r + 1 := by omega
      subst this
      rw [cw_zero]; rfl
    · refine ev_neg (by omega) ?_
      rw [wrap_of (x := (a : Int) - 1) (by omega) (by omega), wrap_of (x := (b : Int) - 1) (by omega) (by omega), show (a : Int) - 1 = ((a - 1 : Nat) : Int) by omega]
      refine ev_bind (ih (a - 1) b (by omega) (by omega) (by omega)) ?_
      have hb1 := cw_bound (r := r) (a := a - 1) (b := b) (by omega)
      have hb2 := cw_bound (r := r) (a := a) (b := b - 1) (by omega)
      by_cases hb : b > a
      · rw [show (b : Int) - 1 = ((b - 1 : Nat) : Int) by omega]
        refine ev_pos (by omega) (ev_bind (ih a (b - 1) (by omega) (by omega) (by omega)) (ev_now ?_))
        rw [wrap_of (by omega) (by omega)]
        simp only [cw]
        rw [if_pos (by omega), if_pos hb]; omega
      · refine ev_neg (by omega) (ev_now ?_)
        simp only [cw]
        rw [if_pos (by omega), if_neg hb]; rfl

/-! ### RankOfWord -/
theorem wsplit : ∀ (s : List Int) (d : Int), 0 ≤ d → wGo s d = true → ∃ a b : Nat, s.length = a + b ∧ (b : Int) = a + d := by
  intro s
  induction s with
  | nil => intro d h0 h; simp [wGo] at h; exact ⟨0, 0, rfl, by simp [h]⟩
  | cons c s ih =>
    intro d h0 h
    simp only [wGo] at h
    split at h
    · obtain ⟨a, b, h1, h2⟩ := ih _ (by omega) h
      exact ⟨a + 1, b, by simp; omega, by omega⟩
    · split at h
      · split at h
        · obtain ⟨a, b, h1, h2⟩ := ih _ (by omega) h
          exact ⟨a, b + 1, by simp; omega, by omega⟩
        · cases h
      · cases h
theorem spec_rank_l (w : ByteArray) (hw : w.size ≤ 14) : ∀ (suf pre : List Int) (a b acc : Nat), bytesOf w = pre ++ suf → wGo suf ((b : Int) - a) = true → a ≤ b → suf.length = a + b → acc + 16384 * suf.length ≤ 1000000 → Ev (fun k => spec_l4WordRank.l0 k w (acc : Int) ((b : Int) - a) (pre.length : Int)) ((rankGo suf a b acc : Nat) : Int) := by
  intro suf
  induction suf with
  | nil =>
    intro pre a b acc e hg h1 h2 h3
    have h := size_end e
    refine ev_succ ?_
    simp only [spec_l4WordRank.l0.eq_2]
    exact ev_neg (by omega) (ev_now (by simp [rankGo]))
  | cons c suf ih =>
    intro pre a b acc e hg h1 h2 h3
    have h := size_mid e
    simp only [List.length_cons] at h2 h3
    refine ev_succ ?_
    simp only [spec_l4WordRank.l0.eq_2, bt_mid e]
    rw [wrap_snoc (pre := pre) (c := c) (by omega), wrap_of (x := (b : Int) - a + 1) (by omega) (by omega), wrap_of (x := (b : Int) - a - 1) (by omega) (by omega), wrap_of (x := (w.size : Int) - 1) (by omega) (by omega), wrap_of (x := (w.size : Int) - 1 - (pre.length : Int)) (by omega) (by omega)]
    refine ev_pos (by omega) (ev_pos (by omega) ?_)
    by_cases hI : c = 73
    · subst hI
      rw [wGo_in] at hg
      have ha : 0 < a := by
        rcases Nat.eq_zero_or_pos a with h0 | h0
        · obtain ⟨a', b', e1, e2⟩ := wsplit _ _ (by omega) hg; omega
        · exact h0
      refine ev_pos rfl ?_
      rw [show (b : Int) - a + 1 = (b : Int) - ((a - 1 : Nat) : Int) by omega] at hg ⊢
      refine ev_eq (ih _ (a - 1) b acc (snoc_mid e) hg (by omega) (by omega) (by omega)) ?_
      simp [rankGo]
    · by_cases hO : c = 79
      · subst hO
        rw [wGo_out] at hg
        by_cases hd : (b : Int) - a > 0
        · rw [if_pos hd] at hg
          have hb := cw_bound (r := a + b - 1) (a := a - 1) (b := b) (by omega)
          refine ev_neg hI ?_
          have he := ends_ev (b - a + 1) (a + b - 1) (by omega) (by omega)
          rw [endsT_in a b h1 (by omega)] at he
          rw [show (b : Int) - a + 1 = ((b - a + 1 : Nat) : Int) by omega, show (w.size : Int) - 1 - (pre.length : Int) = ((a + b - 1 : Nat) : Int) by omega]
          refine ev_bind he ?_
          have hb2 : (if a > 0 then cw (a + b - 1) (a - 1) b else 0) ≤ 16384 := by split <;> omega
          rw [wrap_of (by omega) (by omega), show (acc : Int) + ((if a > 0 then cw (a + b - 1) (a - 1) b else 0 : Nat) : Int) = ((acc + (if a > 0 then cw (a + b - 1) (a - 1) b else 0) : Nat) : Int) by omega]
          rw [show (b : Int) - a - 1 = ((b - 1 : Nat) : Int) - a by omega] at hg ⊢
          refine ev_eq (ih _ a (b - 1) _ (snoc_mid e) hg (by omega) (by omega) (by omega)) ?_
          simp [rankGo]
        · rw [if_neg hd] at hg; cases hg
      · simp only [wGo] at hg
        rw [if_neg hI, if_neg hO] at hg; cases hg
theorem spec_rankword_ev (w : ByteArray) (hw : w.size ≤ 140737488351232) : Ev (fun k => spec_RankOfWord.f k w) (rankWR w) := by
  unfold spec_RankOfWord.f rankWR
  have hb := bytes_len w
  by_cases h : isWd (bytesOf w) = true
  · rw [onWd_pos h]
    have h' := (isWd_iff _).1 h
    have hev := wGo_even _ _ h'.2
    rw [hb] at h' hev
    refine ev_bind (spec_any_ev w hw) (ev_pos h (ev_bind (a := ((rankGo (bytesOf w) (w.size / 2) (w.size / 2) 0 : Nat) : Int)) ?_ (ev_now rfl)))
    unfold spec_l4WordRank.f
    have := spec_rank_l w h'.1.2 (bytesOf w) [] (w.size / 2) (w.size / 2) 0 rfl (by rw [Int.sub_self]; exact h'.2) (Nat.le_refl _) (by rw [hb]; omega) (by rw [hb]; omega)
    simpa using this
  · rw [onWd_neg h]
    exact ev_bind (spec_any_ev w hw) (ev_neg h (ev_now rfl))
theorem impl_rank_l (w : ByteArray) (hw : w.size ≤ 14) : ∀ (suf pre : List Int) (a b acc : Nat), bytesOf w = pre ++ suf → wGo suf ((b : Int) - a) = true → a ≤ b → suf.length = a + b → acc + 16384 * suf.length ≤ 1000000 → Ev (fun k => impl_RankOfWord.l0 k w (a : Int) (b : Int) (acc : Int) (w.size : Int) (pre.length : Int)) (((rankGo suf a b acc : Nat) : Int), true) := by
  intro suf
  induction suf with
  | nil =>
    intro pre a b acc e hg h1 h2 h3
    have h := size_end e
    refine ev_succ ?_
    simp only [impl_RankOfWord.l0.eq_2]
    exact ev_neg (by omega) (ev_now (by simp [rankGo]))
  | cons c suf ih =>
    intro pre a b acc e hg h1 h2 h3
    have h := size_mid e
    simp only [List.length_cons] at h2 h3
    refine ev_succ ?_
    simp only [impl_RankOfWord.l0.eq_2, bt_mid e]
    rw [wrap_snoc (pre := pre) (c := c) (by omega), wrap_of (x := (a : Int) - 1) (by omega) (by omega), wrap_of (x := (b : Int) - 1) (by omega) (by omega)]
    refine ev_pos (by omega) (ev_pos (by omega) (ev_pos (by omega) ?_))
    by_cases hI : c = 73
    · subst hI
      rw [wGo_in] at hg
      have ha : 0 < a := by
        rcases Nat.eq_zero_or_pos a with h0 | h0
        · obtain ⟨a', b', e1, e2⟩ := wsplit _ _ (by omega) hg; omega
        · exact h0
      refine ev_pos rfl ?_
      rw [show (b : Int) - a + 1 = (b : Int) - ((a - 1 : Nat) : Int) by omega] at hg
      rw [show (a : Int) - 1 = ((a - 1 : Nat) : Int) by omega]
      refine ev_eq (ih _ (a - 1) b acc (snoc_mid e) hg (by omega) (by omega) (by omega)) ?_
      simp [rankGo]
    · by_cases hO : c = 79
      · subst hO
        rw [wGo_out] at hg
        by_cases hd : (b : Int) - a > 0
        · rw [if_pos hd] at hg
          have hb := cw_bound (r := a + b - 1) (a := a - 1) (b := b) (by omega)
          refine ev_neg hI ?_
          rw [show (b : Int) - a - 1 = ((b - 1 : Nat) : Int) - a by omega] at hg
          rw [show (b : Int) - 1 = ((b - 1 : Nat) : Int) by omega]
          by_cases ha : a > 0
          · rw [show (a : Int) - 1 = ((a - 1 : Nat) : Int) by omega]
            refine ev_pos (by omega) (ev_bind (cw_ev (a + b - 1) (a - 1) b (by omega) (by omega) (by omega)) ?_)
            rw [wrap_of (by omega) (by omega), show (acc : Int) + ((cw (a + b - 1) (a - 1) b : Nat) : Int) = ((acc + cw (a + b - 1) (a - 1) b : Nat) : Int) by omega]
            refine ev_eq (ih _ a (b - 1) _ (snoc_mid e) hg (by omega) (by omega) (by omega)) ?_
            simp [rankGo, ha]
          · refine ev_neg (by omega) ?_
            refine ev_eq (ih _ a (b - 1) _ (snoc_mid e) hg (by omega) (by omega) (by omega)) ?_
            simp [rankGo, ha]
        · rw [if_neg hd] at hg; cases hg
      · simp only [wGo] at hg
        rw [if_neg hI, if_neg hO] at hg; cases hg
theorem impl_rankword_ev (w : ByteArray) (hw : w.size ≤ 140737488351232) : Ev (fun k => impl_RankOfWord.f k w) (rankWR w) := by
  unfold impl_RankOfWord.f rankWR
  have hb := bytes_len w
  by_cases h : isWd (bytesOf w) = true
  · rw [onWd_pos h]
    have h' := (isWd_iff _).1 h
    have hev := wGo_even _ _ h'.2
    rw [hb] at h' hev
    refine ev_bind (isWord_ev w hw) (ev_pos h ?_)
    rw [wrap_of (by omega) (by omega), show (w.size : Int) / 2 = ((w.size / 2 : Nat) : Int) by omega]
    exact impl_rank_l w h'.1.2 (bytesOf w) [] (w.size / 2) (w.size / 2) 0 rfl (by rw [Int.sub_self]; exact h'.2) (Nat.le_refl _) (by rw [hb]; omega) (by rw [hb]; omega)
  · rw [onWd_neg h]
    exact ev_bind (isWord_ev w hw) (ev_neg h (ev_now rfl))

theorem FnExactRankOfWord : laws_FnExactRankOfWord.Pure := by
  intro w hw
  apply Ev.rounds (r := true)
  unfold laws_FnExactRankOfWord.f
  by_cases h1 : (w.size : Int) > 1048576
  · exact ev_pos h1 (ev_now rfl)
  refine ev_neg h1 (ev_bind (spec_rankword_ev w hw) (ev_bind (impl_rankword_ev w hw) ?_))
  exact ev_pos rfl (ev_neg (by simp) (ev_now rfl))
end Go.Proofs.Ytcocnmolojcoaaa.Pure
