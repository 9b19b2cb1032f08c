/- The pure statement of FnExactDepthOf: program and reference tell the same depth of every text. No condition. -/
import Derived.Test.YtbcpjnbcaafakabPFnExactDepthOfx1
import Derived.Test.YtbcpjnbcaafakabBase
namespace Go.Proofs.Ytbcpjnbcaafakab.Pure
open Go Go.RowKit Go.Proofs.Ytbcpjnbcaafakab.PFnExactDepthOf Go.Proofs.YtbcpjnbcaafakabW.PrintWords Go.Proofs.Ytbcpjnbcaafakab.Base
set_option linter.unusedVariables false
set_option linter.unusedSimpArgs false
/-! ### Is it an order? -/
theorem in_ev (a b c : Int) : Ev (fun _ => spec_l1In.f a b c) (decide (b ≤ a) && decide (a ≤ c)) := by
  unfold spec_l1In.f
  by_cases h : a ≥ b
  · refine ev_pos h (ev_now ?_)
    have : decide (b ≤ a) = true := decide_eq_true h
    rw [this]; rfl
  · refine ev_neg h (ev_now ?_)
    have : decide (b ≤ a) = false := decide_eq_false (by omega)
    rw [this]; rfl

/-! ### Is it a word? How deep? -/
theorem spec_word_l (w : ByteArray) (hw : w.size ≤ 140737488351232) : ∀ (suf pre : List Int) (d : Int), bytesOf w = pre ++ suf → 0 ≤ d → d ≤ pre.length → Ev (fun k => spec_l2Word.l0 k w d (pre.length : Int)) (wGo suf d) := by
  intro suf
  induction suf with
  | nil =>
    intro pre d e h0 h1
    have h := size_end e
    refine ev_succ ?_
    simp only [spec_l2Word.l0.eq_2]
    exact ev_neg (by omega) (ev_now rfl)
  | cons c suf ih =>
    intro pre d e h0 h1
    have h := size_mid e
    refine ev_succ ?_
    simp only [spec_l2Word.l0.eq_2, bt_mid e]
    refine ev_pos (by omega) (ev_pos (by omega) ?_)
    by_cases hI : c = 73
    · refine ev_pos hI ?_
      rw [wrap_snoc (pre := pre) (c := c) (by omega), wrap_of (x := d + 1) (by omega) (by omega)]
      refine ev_eq (ih _ (d + 1) (snoc_mid e) (by omega) (by simp; omega)) ?_
      simp only [wGo]; rw [if_pos hI]
    · refine ev_neg hI ?_
      by_cases hO : c = 79
      · refine ev_pos hO ?_
        by_cases hd : d > 0
        · refine ev_pos hd ?_
          rw [wrap_snoc (pre := pre) (c := c) (by omega), wrap_of (x := d - 1) (by omega) (by omega)]
          refine ev_eq (ih _ (d - 1) (snoc_mid e) (by omega) (by simp; omega)) ?_
          simp only [wGo]; rw [if_neg hI, if_pos hO, if_pos hd]
        · refine ev_neg hd (ev_now ?_)
          simp only [wGo]; rw [if_neg hI, if_pos hO, if_neg hd]
      · refine ev_neg hO (ev_now ?_)
        simp only [wGo]; rw [if_neg hI, if_neg hO]
theorem spec_word_ev (w : ByteArray) (n : Int) (hw : w.size ≤ 140737488351232) (h0 : 0 ≤ n) (h1 : n ≤ 140737488351232) : Ev (fun k => spec_l2Word.f k w n) (decide ((w.size : Int) = 2 * n) && wGo (bytesOf w) 0) := by
  unfold spec_l2Word.f
  rw [wrap_of (by omega) (by omega)]
  by_cases h : (w.size : Int) = 2 * n
  · refine ev_pos h (ev_eq (spec_word_l w hw (bytesOf w) [] 0 rfl (by omega) (by simp)) ?_)
    simp [h]
  · exact ev_neg h (ev_now (by simp [h]))

theorem spec_any_ev (w : ByteArray) (hw : w.size ≤ 140737488351232) : Ev (fun k => spec_l2Any.f k w) (isWd (bytesOf w)) := by
  unfold spec_l2Any.f
  refine ev_bind (in_ev _ _ _) ?_
  have hb := bytes_len w
  by_cases h : 2 ≤ w.size ∧ w.size ≤ 14
  · refine ev_pos (by simp; omega) ?_
    rw [wrap_of (by omega) (by omega)]
    refine ev_bind (spec_word_ev w ((w.size : Int) / 2) hw (by omega) (by omega)) (ev_now ?_)
    unfold isWd
    rw [hb]
    by_cases hg : wGo (bytesOf w) 0 = true
    · have := wGo_even _ _ hg
      rw [hb] at this
      have e : (w.size : Int) = 2 * ((w.size : Int) / 2) := by omega
      simp [hg, h.1, h.2, ← e]
    · simp [hg]
  · refine ev_neg (by simp; omega) (ev_now ?_)
    unfold isWd
    rw [hb]
    by_cases h2 : 2 ≤ w.size
    · have : ¬ w.size ≤ 14 := fun h3 => h ⟨h2, h3⟩
      simp [this]
    · simp [h2]

theorem isSize_ev (n : Int) : Ev (fun _ => impl_isSize.f n) (decide (1 ≤ n) && decide (n ≤ 7)) := by
  unfold impl_isSize.f
  by_cases h : n ≥ 1
  · refine ev_pos h (ev_now ?_)
    have : decide (1 ≤ n) = true := decide_eq_true h
    rw [this]; rfl
  · refine ev_neg h (ev_now ?_)
    have : decide (1 ≤ n) = false := decide_eq_false (by omega)
    rw [this]; rfl

theorem depth_l (w : ByteArray) (hw : w.size ≤ 140737488351232) : ∀ (suf pre : List Int) (d m : Int), bytesOf w = pre ++ suf → 0 ≤ d → d ≤ pre.length → Ev (fun k => impl_depthOf.l0 k w d m (w.size : Int) (pre.length : Int)) (if wGo suf d = true ∧ 2 ≤ w.size ∧ w.size ≤ 15 then (wDeep suf d m, true) else (0, false)) := by
  intro suf
  induction suf with
  | nil =>
    intro pre d m e h0 h1
    have h := size_end e
    refine ev_succ ?_
    simp only [impl_depthOf.l0.eq_2]
    refine ev_neg (by omega) ?_
    by_cases hd : d = 0
    · refine ev_pos hd ?_
      rw [wrap_of (by omega) (by omega)]
      refine ev_bind (isSize_ev _) ?_
      by_cases hs : 2 ≤ w.size ∧ w.size ≤ 15
      · refine ev_pos (by simp; omega) (ev_now ?_)
        rw [if_pos ⟨by simp [wGo, hd], hs.1, hs.2⟩]; rfl
      · refine ev_neg (by simp; omega) (ev_now ?_)
        rw [if_neg (fun h => hs h.2)]
    · refine ev_neg hd (ev_now ?_)
      rw [if_neg (fun h => hd (by simpa [wGo] using h.1))]
  | cons c suf ih =>
    intro pre d m e h0 h1
    have h := size_mid e
    refine ev_succ ?_
    simp only [impl_depthOf.l0.eq_2, bt_mid e]
    refine ev_pos (by omega) (ev_pos (by omega) (ev_pos (by omega) ?_))
    rw [wrap_snoc (pre := pre) (c := c) (by omega), wrap_of (x := d + 1) (by omega) (by omega), wrap_of (x := d - 1) (by omega) (by omega)]
    by_cases hI : c = 73
    · refine ev_pos hI (ev_neg (by omega) ?_)
      refine ev_eq (ih _ (d + 1) _ (snoc_mid e) (by omega) (by simp; omega)) ?_
      subst hI; rw [wGo_in, wDeep_in]
    · refine ev_neg hI ?_
      by_cases hO : c = 79
      · refine ev_pos hO ?_
        by_cases hd : d > 0
        · refine ev_neg (by omega) ?_
          refine ev_eq (ih _ (d - 1) _ (snoc_mid e) (by omega) (by simp; omega)) ?_
          subst hO; rw [wGo_out, wDeep_out, if_pos hd]
        · refine ev_pos (by omega) (ev_now ?_)
          rw [if_neg]; simp only [wGo]; rw [if_neg hI, if_pos hO, if_neg hd]; simp
      · refine ev_neg hO (ev_now ?_)
        rw [if_neg]; simp only [wGo]; rw [if_neg hI, if_neg hO]; simp
theorem depth_ev (w : ByteArray) (hw : w.size ≤ 140737488351232) : Ev (fun k => impl_depthOf.f k w) (if isWd (bytesOf w) = true then (wDeep (bytesOf w) 0 0, true) else (0, false)) := by
  unfold impl_depthOf.f
  refine ev_eq (depth_l w hw (bytesOf w) [] 0 0 rfl (by omega) (by simp)) ?_
  have hb := bytes_len w
  by_cases h : isWd (bytesOf w) = true
  · have h' := (isWd_iff _).1 h
    rw [hb] at h'
    rw [if_pos h, if_pos ⟨h'.2, h'.1.1, by omega⟩]
  · rw [if_neg h, if_neg]
    intro ⟨h1, h2, h3⟩
    have := wGo_even _ _ h1
    rw [hb] at this
    exact h ((isWd_iff _).2 ⟨by rw [hb]; omega, h1⟩)

theorem most_ev (a b : Int) : Ev (fun _ => spec_l1Most.f a b) (mx a b) := by
  have e : mx a b = if a > b then a else b := by unfold mx; split <;> split <;> omega
  rw [e]
  unfold spec_l1Most.f
  by_cases h : a > b
  · simp only [if_pos h]; exact ev_now rfl
  · simp only [if_neg h]; exact ev_now rfl

/-! ### DepthOf -/
theorem spec_deep_l (w : ByteArray) (hw : w.size ≤ 14) : ∀ (suf pre : List Int) (d m : Int), bytesOf w = pre ++ suf → wGo suf d = true → 0 ≤ d → d ≤ pre.length → Ev (fun k => spec_l2Depth.l0 k w d m (pre.length : Int)) (wDeep suf d m) := by
  intro suf
  induction suf with
  | nil =>
    intro pre d m e hg h0 h1
    have h := size_end e
    refine ev_succ ?_
    simp only [spec_l2Depth.l0.eq_2]
    exact ev_neg (by omega) (ev_now rfl)
  | cons c suf ih =>
    intro pre d m e hg h0 h1
    have h := size_mid e
    refine ev_succ ?_
    simp only [spec_l2Depth.l0.eq_2, bt_mid e]
    rw [wrap_snoc (pre := pre) (c := c) (by omega), wrap_of (x := d + 1) (by omega) (by omega), wrap_of (x := d - 1) (by omega) (by omega)]
    refine ev_pos (by omega) (ev_pos (by omega) ?_)
    by_cases hI : c = 73
    · subst hI
      rw [wGo_in] at hg
      refine ev_pos rfl (ev_bind (most_ev _ _) ?_)
      rw [wDeep_in]
      exact ih _ _ _ (snoc_mid e) hg (by omega) (by simp; omega)
    · by_cases hO : c = 79
      · subst hO
        rw [wGo_out] at hg
        by_cases hd : d > 0
        · rw [if_pos hd] at hg
          refine ev_neg hI (ev_bind (most_ev _ _) ?_)
          rw [wDeep_out]
          exact ih _ _ _ (snoc_mid e) hg (by omega) (by simp; omega)
        · rw [if_neg hd] at hg; cases hg
      · simp only [wGo] at hg
        rw [if_neg hI, if_neg hO] at hg; cases hg
def depthR (w : ByteArray) : Int × Bool := if isWd (bytesOf w) = true then (wDeep (bytesOf w) 0 0, true) else (0, false)
theorem spec_depthof_ev (w : ByteArray) (hw : w.size ≤ 140737488351232) : Ev (fun k => spec_DepthOf.f k w) (depthR w) := by
  unfold spec_DepthOf.f depthR
  have hb := bytes_len w
  refine ev_bind (spec_any_ev w hw) ?_
  by_cases h : isWd (bytesOf w) = true
  · rw [if_pos h]
    have h' := (isWd_iff _).1 h
    rw [hb] at h'
    refine ev_pos h (ev_bind (a := wDeep (bytesOf w) 0 0) ?_ (ev_now rfl))
    unfold spec_l2Depth.f
    exact spec_deep_l w h'.1.2 (bytesOf w) [] 0 0 rfl h'.2 (by omega) (by simp)
  · rw [if_neg h]; exact ev_neg h (ev_now rfl)
theorem impl_depthof_ev (w : ByteArray) (hw : w.size ≤ 140737488351232) : Ev (fun k => impl_DepthOf.f k w) (depthR w) := by
  unfold impl_DepthOf.f depthR
  exact ev_bind (depth_ev w hw) (ev_now rfl)

theorem FnExactDepthOf : laws_FnExactDepthOf.Pure := by
  intro w hw
  apply Ev.rounds (r := true)
  unfold laws_FnExactDepthOf.f
  by_cases h1 : (w.size : Int) > 1048576
  · exact ev_pos h1 (ev_now rfl)
  refine ev_neg h1 (ev_bind (spec_depthof_ev w hw) (ev_bind (impl_depthof_ev w hw) ?_))
  exact ev_pos rfl (ev_neg (by simp) (ev_now rfl))
end Go.Proofs.Ytbcpjnbcaafakab.Pure
