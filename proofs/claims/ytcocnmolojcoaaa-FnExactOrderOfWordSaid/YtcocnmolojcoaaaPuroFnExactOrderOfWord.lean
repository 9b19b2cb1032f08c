/- The pure statement of FnExactOrderOfWord: program and reference tell the same order of every text. No condition. -/
import Derived.Test.YtcocnmolojcoaaaMFnExactOrderOfWordx3
import Derived.Test.YtcocnmolojcoaaaBase
import Derived.Test.YtcocnmolojcoaaaBaseW
namespace Go.Proofs.Ytcocnmolojcoaaa.Pure
open Go Go.RowKit Go.Proofs.Ytcocnmolojcoaaa.MFnExactOrderOfWord Go.Proofs.YtcocnmolojcoaaaW.PrintWords Go.Proofs.Ytcocnmolojcoaaa.Base
set_option linter.unusedVariables false
set_option linter.unusedSimpArgs false
/-! ### Is it an order? -/
theorem in_ev (a b c : Int) : Ev (fun _ => spec_l1In.f a b c) (decide (b ≤ a) && decide (a ≤ c)) := by
  unfold spec_l1In.f
  by_cases h : a ≥ b
  · refine ev_pos h (ev_now ?_)
    have : decide (b ≤ a) = true := decide_eq_true h
    rw [this]; rfl
  · refine ev_neg h (ev_now ?_)
    have : decide (b ≤ a) = false := decide_eq_false (by omega)
    rw [this]; rfl

theorem eqInt_l (a b : List Int) (hl : a.length * 8 ≤ 140737488351232) : ∀ (s t pre q : List Int), a = pre ++ s → b = q ++ t → pre.length = q.length → s.length = t.length → Ev (fun k => laws_eqIntS.l0 k a b (pre.length : Int)) (decide (s = t)) := by
  intro s
  induction s with
  | nil =>
    intro t pre q e e' h1 h2
    have h := len_end e
    obtain rfl : t = [] := by cases t with
      | nil => rfl
      | cons _ _ => simp at h2
    refine ev_succ ?_
    simp only [laws_eqIntS.l0.eq_2]
    refine ev_neg (by omega) ?_
    exact ev_now (by simp)
  | cons c s ih =>
    intro t pre q e e' h1 h2
    cases t with
    | nil => simp at h2
    | cons d t =>
    have h := len_mid e
    have h' := len_mid e'
    refine ev_succ ?_
    have r1 := rd_mid' e
    have r2 := rd_mid' e'
    rw [← h1] at r2
    simp only [laws_eqIntS.l0.eq_2, r1, r2]
    refine ev_pos (by omega) (ev_pos (by omega) (ev_pos (by omega) ?_))
    by_cases hc : c = d
    · refine ev_pos hc ?_
      rw [wrap_snoc (pre := pre) (c := c) (by omega)]
      refine ev_eq (ih t (pre ++ [c]) (q ++ [d]) (snoc_mid e) (snoc_mid e') (by simp [h1]) (by simpa using h2)) ?_
      simp [hc]
    · refine ev_neg hc (ev_now ?_)
      simp [hc]
theorem eqInt_ev (a b : List Int) (hl : a.length * 8 ≤ 140737488351232) : Ev (fun k => laws_eqIntS.f k a b) (decide (a = b)) := by
  unfold laws_eqIntS.f
  by_cases h : a.length = b.length
  · refine ev_pos (by omega) ?_
    exact eqInt_l a b hl a b [] [] rfl rfl rfl h
  · refine ev_neg (by omega) (ev_now ?_)
    symm
    exact decide_eq_false (fun e => h (by rw [e]))

/-! ### laws.markIntS, laws.heldIntS -/
theorem mark_l : ∀ (suf pre : List Int) (x : Int), 0 ≤ x → x + suf.length ≤ 4611686018427387904 → pre.length + suf.length ≤ 4611686018427387904 → Ev (fun k => laws_markIntS.l0 k (pre ++ suf) x (pre.length : Int)) (x + suf.length, pre ++ iota x suf.length) := by
  intro suf
  induction suf with
  | nil =>
    intro pre x h0 h1 h2
    refine ev_succ ?_
    simp only [laws_markIntS.l0.eq_2]
    refine ev_neg (by simp) ?_
    exact ev_now (by simp [iota])
  | cons c suf ih =>
    intro pre x h0 h1 h2
    simp only [List.length_cons] at h1 h2
    refine ev_succ ?_
    simp only [laws_markIntS.l0.eq_2]
    refine ev_pos (by simp; omega) (ev_pos (by omega) ?_)
    have e2 : (pre ++ c :: suf).set ((pre.length : Int)).toNat x = (pre ++ [x]) ++ suf := by simp
    rw [wrap_snoc (pre := pre) (c := x) (by omega), e2, wrap_of (by omega) (by omega)]
    refine ev_eq (ih (pre ++ [x]) (x + 1) (by omega) (by omega) (by simp; omega)) ?_
    simp [iota]; omega
theorem mark_ev (l : List Int) (x : Int) (h0 : 0 ≤ x) (h1 : x + l.length ≤ 4611686018427387904) : Ev (fun k => laws_markIntS.f k l x) (x + l.length, iota x l.length) := by
  unfold laws_markIntS.f
  have := mark_l l [] x h0 h1 (by simp; omega)
  simpa using this
theorem held_l : ∀ (n : Nat) (pre : List Int) (x : Int), 0 ≤ x → x + n ≤ 4611686018427387904 → pre.length + n ≤ 4611686018427387904 → Ev (fun k => laws_heldIntS.l0 k (pre ++ iota x n) x (pre.length : Int)) (x + n) := by
  intro n
  induction n with
  | zero =>
    intro pre x h0 h1 h2
    refine ev_succ ?_
    simp only [laws_heldIntS.l0.eq_2]
    refine ev_neg (by simp [iota]) ?_
    exact ev_now (by simp)
  | succ n ih =>
    intro pre x h0 h1 h2
    refine ev_succ ?_
    simp only [laws_heldIntS.l0.eq_2, iota, rd_mid]
    refine ev_pos (by simp; omega) (ev_pos (by omega) (ev_pos trivial ?_))
    rw [wrap_snoc (pre := pre) (c := x) (by omega), wrap_of (by omega) (by omega), show pre ++ x :: iota (x + 1) n = (pre ++ [x]) ++ iota (x + 1) n by simp]
    refine ev_eq (ih (pre ++ [x]) (x + 1) (by omega) (by omega) (by simp; omega)) ?_
    omega
theorem held_ev (n : Nat) (x : Int) (h0 : 0 ≤ x) (h1 : x + n ≤ 4611686018427387904) : Ev (fun k => laws_heldIntS.f k (iota x n) x) (x + n) := by
  unfold laws_heldIntS.f
  have := held_l n [] x h0 h1 (by simp; omega)
  simpa using this

/-! ### Is it a word? How deep? -/
theorem spec_word_l (w : ByteArray) (hw : w.size ≤ 140737488351232) : ∀ (suf pre : List Int) (d : Int), bytesOf w = pre ++ suf → 0 ≤ d → d ≤ pre.length → Ev (fun k => spec_l2Word.l0 k w d (pre.length : Int)) (wGo suf d) := by
  intro suf
  induction suf with
  | nil =>
    intro pre d e h0 h1
    have h := size_end e
    refine ev_succ ?_
    simp only [spec_l2Word.l0.eq_2]
    exact ev_neg (by omega) (ev_now rfl)
  | cons c suf ih =>
    intro pre d e h0 h1
    have h := size_mid e
    refine ev_succ ?_
    simp only [spec_l2Word.l0.eq_2, bt_mid e]
    refine ev_pos (by omega) (ev_pos (by omega) ?_)
    by_cases hI : c = 73
    · refine ev_pos hI ?_
      rw [wrap_snoc (pre := pre) (c := c) (by omega), wrap_of (x := d + 1) (by omega) (by omega)]
      refine ev_eq (ih _ (d + 1) (snoc_mid e) (by omega) (by simp; omega)) ?_
      simp only [wGo]; rw [if_pos hI]
    · refine ev_neg hI ?_
      by_cases hO : c = 79
      · refine ev_pos hO ?_
        by_cases hd : d > 0
        · refine ev_pos hd ?_
          rw [wrap_snoc (pre := pre) (c := c) (by omega), wrap_of (x := d - 1) (by omega) (by omega)]
          refine ev_eq (ih _ (d - 1) (snoc_mid e) (by omega) (by simp; omega)) ?_
          simp only [wGo]; rw [if_neg hI, if_pos hO, if_pos hd]
        · refine ev_neg hd (ev_now ?_)
          simp only [wGo]; rw [if_neg hI, if_pos hO, if_neg hd]
      · refine ev_neg hO (ev_now ?_)
        simp only [wGo]; rw [if_neg hI, if_neg hO]
theorem spec_word_ev (w : ByteArray) (n : Int) (hw : w.size ≤ 140737488351232) (h0 : 0 ≤ n) (h1 : n ≤ 140737488351232) : Ev (fun k => spec_l2Word.f k w n) (decide ((w.size : Int) = 2 * n) && wGo (bytesOf w) 0) := by
  unfold spec_l2Word.f
  rw [wrap_of (by omega) (by omega)]
  by_cases h : (w.size : Int) = 2 * n
  · refine ev_pos h (ev_eq (spec_word_l w hw (bytesOf w) [] 0 rfl (by omega) (by simp)) ?_)
    simp [h]
  · exact ev_neg h (ev_now (by simp [h]))

theorem spec_any_ev (w : ByteArray) (hw : w.size ≤ 140737488351232) : Ev (fun k => spec_l2Any.f k w) (isWd (bytesOf w)) := by
  unfold spec_l2Any.f
  refine ev_bind (in_ev _ _ _) ?_
  have hb := bytes_len w
  by_cases h : 2 ≤ w.size ∧ w.size ≤ 14
  · refine ev_pos (by simp; omega) ?_
    rw [wrap_of (by omega) (by omega)]
    refine ev_bind (spec_word_ev w ((w.size : Int) / 2) hw (by omega) (by omega)) (ev_now ?_)
    unfold isWd
    rw [hb]
    by_cases hg : wGo (bytesOf w) 0 = true
    · have := wGo_even _ _ hg
      rw [hb] at this
      have e : (w.size : Int) = 2 * ((w.size : Int) / 2) := by omega
      simp [hg, h.1, h.2, ← e]
    · simp [hg]
  · refine ev_neg (by simp; omega) (ev_now ?_)
    unfold isWd
    rw [hb]
    by_cases h2 : 2 ≤ w.size
    · have : ¬ w.size ≤ 14 := fun h3 => h ⟨h2, h3⟩
      simp [this]
    · simp [h2]

theorem isSize_ev (n : Int) : Ev (fun _ => impl_isSize.f n) (decide (1 ≤ n) && decide (n ≤ 7)) := by
  unfold impl_isSize.f
  by_cases h : n ≥ 1
  · refine ev_pos h (ev_now ?_)
    have : decide (1 ≤ n) = true := decide_eq_true h
    rw [this]; rfl
  · refine ev_neg h (ev_now ?_)
    have : decide (1 ≤ n) = false := decide_eq_false (by omega)
    rw [this]; rfl

theorem depth_l (w : ByteArray) (hw : w.size ≤ 140737488351232) : ∀ (suf pre : List Int) (d m : Int), bytesOf w = pre ++ suf → 0 ≤ d → d ≤ pre.length → Ev (fun k => impl_depthOf.l0 k w d m (w.size : Int) (pre.length : Int)) (if wGo suf d = true ∧ 2 ≤ w.size ∧ w.size ≤ 15 then (wDeep suf d m, true) else (0, false)) := by
  intro suf
  induction suf with
  | nil =>
    intro pre d m e h0 h1
    have h := size_end e
    refine ev_succ ?_
    simp only [impl_depthOf.l0.eq_2]
    refine ev_neg (by omega) ?_
    by_cases hd : d = 0
    · refine ev_pos hd ?_
      rw [wrap_of (by omega) (by omega)]
      refine ev_bind (isSize_ev _) ?_
      by_cases hs : 2 ≤ w.size ∧ w.size ≤ 15
      · refine ev_pos (by simp; omega) (ev_now ?_)
        rw [if_pos ⟨by simp [wGo, hd], hs.1, hs.2⟩]; rfl
      · refine ev_neg (by simp; omega) (ev_now ?_)
        rw [if_neg (fun h => hs h.2)]
    · refine ev_neg hd (ev_now ?_)
      rw [if_neg (fun h => hd (by simpa [wGo] using h.1))]
  | cons c suf ih =>
    intro pre d m e h0 h1
    have h := size_mid e
    refine ev_succ ?_
    simp only [impl_depthOf.l0.eq_2, bt_mid e]
    refine ev_pos (by omega) (ev_pos (by omega) (ev_pos (by omega) ?_))
    rw [wrap_snoc (pre := pre) (c := c) (by omega), wrap_of (x := d + 1) (by omega) (by omega), wrap_of (x := d - 1) (by omega) (by omega)]
    by_cases hI : c = 73
    · refine ev_pos hI (ev_neg (by omega) ?_)
      refine ev_eq (ih _ (d + 1) _ (snoc_mid e) (by omega) (by simp; omega)) ?_
      subst hI; rw [wGo_in, wDeep_in]
    · refine ev_neg hI ?_
      by_cases hO : c = 79
      · refine ev_pos hO ?_
        by_cases hd : d > 0
        · refine ev_neg (by omega) ?_
          refine ev_eq (ih _ (d - 1) _ (snoc_mid e) (by omega) (by simp; omega)) ?_
          subst hO; rw [wGo_out, wDeep_out, if_pos hd]
        · refine ev_pos (by omega) (ev_now ?_)
          rw [if_neg]; simp only [wGo]; rw [if_neg hI, if_pos hO, if_neg hd]; simp
      · refine ev_neg hO (ev_now ?_)
        rw [if_neg]; simp only [wGo]; rw [if_neg hI, if_neg hO]; simp
theorem depth_ev (w : ByteArray) (hw : w.size ≤ 140737488351232) : Ev (fun k => impl_depthOf.f k w) (if isWd (bytesOf w) = true then (wDeep (bytesOf w) 0 0, true) else (0, false)) := by
  unfold impl_depthOf.f
  refine ev_eq (depth_l w hw (bytesOf w) [] 0 0 rfl (by omega) (by simp)) ?_
  have hb := bytes_len w
  by_cases h : isWd (bytesOf w) = true
  · have h' := (isWd_iff _).1 h
    rw [hb] at h'
    rw [if_pos h, if_pos ⟨h'.2, h'.1.1, by omega⟩]
  · rw [if_neg h, if_neg]
    intro ⟨h1, h2, h3⟩
    have := wGo_even _ _ h1
    rw [hb] at this
    exact h ((isWd_iff _).2 ⟨by rw [hb]; omega, h1⟩)

theorem isWord_ev (w : ByteArray) (hw : w.size ≤ 140737488351232) : Ev (fun k => impl_isWord.f k w) (isWd (bytesOf w)) := by
  unfold impl_isWord.f
  refine ev_bind (depth_ev w hw) (ev_now ?_)
  by_cases h : isWd (bytesOf w) = true
  · rw [if_pos h, h]
  · rw [if_neg h]; simpa using h

/-! ### OrderOfWord: over all words, by the kernel's own reckoning -/
def ordChk (n : Nat) : Bool := (wordsC (n + n) n n).all fun w => decide (spec_OrderOfWord.f 60 (strOfNums w) = some (ordWd w, true)) && decide (impl_OrderOfWord.f 60 (strOfNums w) = some (ordWd w, true)) && decide ((ordWd w).length = n)
theorem ordChk1 : ordChk 1 = true := by decide +kernel
theorem ordChk2 : ordChk 2 = true := by decide +kernel
theorem ordChk3 : ordChk 3 = true := by decide +kernel
theorem ordChk4 : ordChk 4 = true := by decide +kernel
theorem ordChk5 : ordChk 5 = true := by decide +kernel
theorem ordChk6 : ordChk 6 = true := by decide +kernel
theorem ordChk7 : ordChk 7 = true := by decide +kernel
theorem ordChk_all (n : Nat) (h1 : 1 ≤ n) (h7 : n ≤ 7) : ordChk n = true := by
  obtain rfl | rfl | rfl | rfl | rfl | rfl | rfl : n = 1 ∨ n = 2 ∨ n = 3 ∨ n = 4 ∨ n = 5 ∨ n = 6 ∨ n = 7 := by omega
  · exact ordChk1
  · exact ordChk2
  · exact ordChk3
  · exact ordChk4
  · exact ordChk5
  · exact ordChk6
  · exact ordChk7
theorem ord_words (w : ByteArray) (h : isWd (bytesOf w) = true) : spec_OrderOfWord.f 60 w = some (ordWd (bytesOf w), true) ∧ impl_OrderOfWord.f 60 w = some (ordWd (bytesOf w), true) ∧ (ordWd (bytesOf w)).length ≤ 7 := by
  obtain ⟨n, h1, h7, _, hm⟩ := isWd_mem h
  have hc := ordChk_all n h1 h7
  unfold ordChk at hc
  have := List.all_eq_true.1 hc _ hm
  simp only [Bool.and_eq_true, decide_eq_true_eq, str_bytes] at this
  exact ⟨this.1.1, this.1.2, by omega⟩
theorem spec_orderofword_ev (w : ByteArray) (hw : w.size ≤ 140737488351232) : Ev (fun k => spec_OrderOfWord.f k w) (ordWdR w) := by
  by_cases h : isWd (bytesOf w) = true
  · have := Ev.of (fun k => spec_OrderOfWord.mono _ k) (ord_words w h).1
    unfold ordWdR; rw [onWd_pos h]; exact this
  · unfold spec_OrderOfWord.f ordWdR
    rw [onWd_neg h]
    exact ev_bind (spec_any_ev w hw) (ev_neg h (ev_now rfl))
theorem impl_orderofword_ev (w : ByteArray) (hw : w.size ≤ 140737488351232) : Ev (fun k => impl_OrderOfWord.f k w) (ordWdR w) := by
  by_cases h : isWd (bytesOf w) = true
  · have := Ev.of (fun k => impl_OrderOfWord.mono _ k) (ord_words w h).2.1
    unfold ordWdR; rw [onWd_pos h]; exact this
  · unfold impl_OrderOfWord.f ordWdR
    rw [onWd_neg h]
    exact ev_bind (isWord_ev w hw) (ev_neg h (ev_now rfl))
theorem ordWdR_length (w : ByteArray) : (ordWdR w).1.length ≤ 7 := by
  by_cases h : isWd (bytesOf w) = true
  · unfold ordWdR; rw [onWd_pos h]; exact (ord_words w h).2.2
  · unfold ordWdR; rw [onWd_neg h]; simp

theorem FnExactOrderOfWord : laws_FnExactOrderOfWord.Pure := by
  intro w hw
  apply Ev.rounds (r := true)
  have hp := spec_orderofword_ev w hw
  have hi := impl_orderofword_ev w hw
  have hl := ordWdR_length w
  unfold laws_FnExactOrderOfWord.f
  by_cases h1 : (w.size : Int) > 1048576
  · exact ev_pos h1 (ev_now rfl)
  refine ev_neg h1 (ev_bind hp (ev_bind hi (ev_bind (eqInt_ev _ _ (by omega)) (ev_pos (by simp) ?_))))
  refine ev_succ ?_
  simp only [laws_FnExactOrderOfWord.j0.eq_2]
  refine ev_neg (by simp) (ev_bind (mark_ev _ 1 (by omega) (by omega)) (ev_bind (held_ev _ 1 (by omega) (by omega)) (ev_neg (by omega) (ev_pos rfl (ev_bind hi (ev_bind (eqInt_ev _ _ (by omega)) (ev_pos (by simp) ?_)))))))
  refine ev_succ ?_
  simp only [laws_FnExactOrderOfWord.j1.eq_2]
  exact ev_neg (by simp) (ev_bind (held_ev _ 1 (by omega) (by omega)) (ev_neg (by omega) (ev_pos rfl (ev_now rfl))))
end Go.Proofs.Ytcocnmolojcoaaa.Pure
