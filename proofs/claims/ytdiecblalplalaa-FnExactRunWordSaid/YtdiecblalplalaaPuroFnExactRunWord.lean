/- The pure statement of FnExactRunWord: by a word the same order comes out. No condition. -/
import Derived.Test.YtdiecblalplalaaMFnExactRunWordx4
import Derived.Test.YtdiecblalplalaaBase
import Derived.Test.YtdiecblalplalaaBaseW
import Derived.Test.YtdiecblalplalaaBaseR
namespace Go.Proofs.Ytdiecblalplalaa.Pure
open Go Go.RowKit Go.Proofs.Ytdiecblalplalaa.MFnExactRunWord Go.Proofs.YtdiecblalplalaaW.PrintWords Go.Proofs.Ytdiecblalplalaa.Base
set_option linter.unusedVariables false
set_option linter.unusedSimpArgs false
/-! ### laws.toIntS, laws.eqIntS -/
theorem toInt_l (l : List Int) (hl : l.length * 8 ≤ 140737488351232) : ∀ (suf pre : List Int), l = pre ++ suf → Ev (fun k => laws_toIntS.l0 k l (pre ++ List.replicate suf.length 0) (pre.length : Int)) l := by
  intro suf
  induction suf with
  | nil =>
    intro pre e
    have h := len_end e
    refine ev_succ ?_
    simp only [laws_toIntS.l0.eq_2]
    refine ev_neg (by omega) ?_
    exact ev_now (by rw [e]; simp)
  | cons c suf ih =>
    intro pre e
    have h := len_mid e
    refine ev_succ ?_
    simp only [laws_toIntS.l0.eq_2, rd_mid' e]
    refine ev_pos (by omega) (ev_pos (by omega) (ev_pos (by simp; omega) ?_))
    rw [wrap_snoc (pre := pre) (c := c) (by omega)]
    have e2 : (pre ++ List.replicate (c :: suf).length 0).set ((pre.length : Int)).toNat c = (pre ++ [c]) ++ List.replicate suf.length 0 := by
      simp [List.replicate_succ]
    rw [e2]
    exact ih _ (snoc_mid e)
theorem toInt_ev (l : List Int) (hl : l.length * 8 ≤ 140737488351232) : Ev (fun k => laws_toIntS.f k l) l := by
  unfold laws_toIntS.f
  refine ev_pos (by omega) (ev_pos (by omega) ?_)
  have := toInt_l l hl l [] rfl
  simpa using this

theorem eqInt_l (a b : List Int) (hl : a.length * 8 ≤ 140737488351232) : ∀ (s t pre q : List Int), a = pre ++ s → b = q ++ t → pre.length = q.length → s.length = t.length → Ev (fun k => laws_eqIntS.l0 k a b (pre.length : Int)) (decide (s = t)) := by
  intro s
  induction s with
  | nil =>
    intro t pre q e e' h1 h2
    have h := len_end e
    obtain rfl : t = [] := by cases t with
      | nil => rfl
      | cons _ _ => simp at h2
    refine ev_succ ?_
    simp only [laws_eqIntS.l0.eq_2]
    refine ev_neg (by omega) ?_
    exact ev_now (by simp)
  | cons c s ih =>
    intro t pre q e e' h1 h2
    cases t with
    | nil => simp at h2
    | cons d t =>
    have h := len_mid e
    have h' := len_mid e'
    refine ev_succ ?_
    have r1 := rd_mid' e
    have r2 := rd_mid' e'
    rw [← h1] at r2
    simp only [laws_eqIntS.l0.eq_2, r1, r2]
    refine ev_pos (by omega) (ev_pos (by omega) (ev_pos (by omega) ?_))
    by_cases hc : c = d
    · refine ev_pos hc ?_
      rw [wrap_snoc (pre := pre) (c := c) (by omega)]
      refine ev_eq (ih t (pre ++ [c]) (q ++ [d]) (snoc_mid e) (snoc_mid e') (by simp [h1]) (by simpa using h2)) ?_
      simp [hc]
    · refine ev_neg hc (ev_now ?_)
      simp [hc]
theorem eqInt_ev (a b : List Int) (hl : a.length * 8 ≤ 140737488351232) : Ev (fun k => laws_eqIntS.f k a b) (decide (a = b)) := by
  unfold laws_eqIntS.f
  by_cases h : a.length = b.length
  · refine ev_pos (by omega) ?_
    exact eqInt_l a b hl a b [] [] rfl rfl rfl h
  · refine ev_neg (by omega) (ev_now ?_)
    symm
    exact decide_eq_false (fun e => h (by rw [e]))

/-! ### Is it an order? -/
theorem in_ev (a b c : Int) : Ev (fun _ => spec_l1In.f a b c) (decide (b ≤ a) && decide (a ≤ c)) := by
  unfold spec_l1In.f
  by_cases h : a ≥ b
  · refine ev_pos h (ev_now ?_)
    have : decide (b ≤ a) = true := decide_eq_true h
    rw [this]; rfl
  · refine ev_neg h (ev_now ?_)
    have : decide (b ≤ a) = false := decide_eq_false (by omega)
    rw [this]; rfl

theorem has_l (l : List Int) (x : Int) (hl : l.length ≤ 140737488351232) : ∀ (suf pre : List Int), l = pre ++ suf → Ev (fun k => spec_l1Has.l0 k l x (pre.length : Int)) (decide (x ∈ suf)) := by
  intro suf
  induction suf with
  | nil =>
    intro pre e
    have h := len_end e
    refine ev_succ ?_
    simp only [spec_l1Has.l0.eq_2]
    refine ev_neg (by omega) ?_
    exact ev_now (by simp)
  | cons c suf ih =>
    intro pre e
    have h := len_mid e
    refine ev_succ ?_
    simp only [spec_l1Has.l0.eq_2, rd_mid' e]
    refine ev_pos (by omega) (ev_pos (by omega) ?_)
    by_cases hc : c = x
    · exact ev_pos hc (ev_now (by simp [hc]))
    · refine ev_neg hc ?_
      rw [wrap_snoc (pre := pre) (c := c) (by omega)]
      refine ev_eq (ih _ (snoc_mid e)) ?_
      have : x ≠ c := fun h => hc h.symm
      simp [this]
theorem has_ev (l : List Int) (x : Int) (hl : l.length ≤ 140737488351232) : Ev (fun k => spec_l1Has.f k l x) (decide (x ∈ l)) := by
  unfold spec_l1Has.f
  exact has_l l x hl l [] rfl
theorem idx_l (l : List Int) (x : Int) (hl : l.length ≤ 140737488351232) : ∀ (suf pre : List Int), l = pre ++ suf → Ev (fun k => slices_Index_int_int.l0 k l x (l.length : Int) (pre.length : Int)) (if x ∈ suf then ((pre.length + suf.idxOf x : Nat) : Int) else -1) := by
  intro suf
  induction suf with
  | nil =>
    intro pre e
    have h := len_end e
    refine ev_succ ?_
    simp only [slices_Index_int_int.l0.eq_2]
    refine ev_neg (by omega) ?_
    exact ev_now (by simp)
  | cons c suf ih =>
    intro pre e
    have h := len_mid e
    refine ev_succ ?_
    simp only [slices_Index_int_int.l0.eq_2, rd_mid' e]
    refine ev_pos (by omega) (ev_pos (by omega) (ev_pos (by omega) ?_))
    by_cases hc : x = c
    · exact ev_pos hc (ev_now (by simp [hc]))
    · refine ev_neg hc ?_
      rw [wrap_snoc (pre := pre) (c := c) (by omega)]
      refine ev_eq (ih _ (snoc_mid e)) ?_
      have hc' : ¬ c = x := fun h => hc h.symm
      have hb : (c == x) = false := by simpa using hc'
      simp only [List.mem_cons, hc, false_or, List.idxOf_cons, hb, cond_false]
      by_cases hm : x ∈ suf
      · rw [if_pos hm, if_pos hm]; simp; omega
      · rw [if_neg hm, if_neg hm]
theorem idx_ev (l : List Int) (x : Int) (hl : l.length ≤ 140737488351232) : Ev (fun k => slices_Index_int_int.f k l x) (if x ∈ l then ((l.idxOf x : Nat) : Int) else -1) := by
  unfold slices_Index_int_int.f
  simpa using idx_l l x hl l [] rfl
theorem contains_ev (l : List Int) (x : Int) (hl : l.length ≤ 140737488351232) : Ev (fun k => slices_Contains_int_int.f k l x) (decide (x ∈ l)) := by
  unfold slices_Contains_int_int.f
  refine ev_bind (idx_ev l x hl) (ev_now ?_)
  by_cases h : x ∈ l
  · simp [h]
  · simp [h]

theorem spec_order_l (l : List Int) (hl : l.length ≤ 140737488351232) : ∀ (suf pre : List Int), l = pre ++ suf → Ev (fun k => spec_l2Order.l0 k l (pre.length : Int)) (ordGo (l.length : Int) pre suf) := by
  intro suf
  induction suf with
  | nil =>
    intro pre e
    have h := len_end e
    refine ev_succ ?_
    simp only [spec_l2Order.l0.eq_2]
    refine ev_neg (by omega) ?_
    exact ev_now rfl
  | cons c suf ih =>
    intro pre e
    have h := len_mid e
    refine ev_succ ?_
    simp only [spec_l2Order.l0.eq_2, rd_mid' e, take_mid e]
    refine ev_pos (by omega) (ev_pos (by omega) (ev_bind (in_ev _ _ _) ?_))
    by_cases hr : 1 ≤ c ∧ c ≤ (l.length : Int)
    · refine ev_pos (by simp [hr.1, hr.2]) (ev_pos (by omega) (ev_bind (has_ev pre c (by omega)) ?_))
      by_cases hc : c ∈ pre
      · exact ev_pos (by simp [hc]) (ev_now (by simp [ordGo, hc]))
      · refine ev_neg (by simp [hc]) ?_
        rw [wrap_snoc (pre := pre) (c := c) (by omega)]
        refine ev_eq (ih _ (snoc_mid e)) ?_
        simp [ordGo, hr.1, hr.2, hc]
    · refine ev_neg (by simp; omega) (ev_now ?_)
      simp only [ordGo]
      rw [if_neg (fun h => hr ⟨h.1, h.2.1⟩)]
theorem spec_order_ev (l : List Int) (hl : l.length ≤ 140737488351232) : Ev (fun k => spec_l2Order.f k l) (isOrd l) := by
  unfold spec_l2Order.f
  refine ev_bind (in_ev _ _ _) ?_
  unfold isOrd
  by_cases h : 1 ≤ l.length ∧ l.length ≤ 7
  · refine ev_pos (by simp; omega) ?_
    rw [if_pos h]
    exact spec_order_l l hl l [] rfl
  · refine ev_neg (by simp; omega) (ev_now ?_)
    rw [if_neg h]
theorem impl_order_l (l : List Int) (hl : l.length ≤ 140737488351232) : ∀ (suf pre : List Int), l = pre ++ suf → Ev (fun k => impl_isOrder.l0 k l l (l.length : Int) (pre.length : Int)) (ordGo (l.length : Int) pre suf) := by
  intro suf
  induction suf with
  | nil =>
    intro pre e
    have h := len_end e
    refine ev_succ ?_
    simp only [impl_isOrder.l0.eq_2]
    refine ev_neg (by omega) ?_
    exact ev_now rfl
  | cons c suf ih =>
    intro pre e
    have h := len_mid e
    refine ev_succ ?_
    simp only [impl_isOrder.l0.eq_2, rd_mid' e, take_mid e]
    refine ev_pos (by omega) (ev_pos (by omega) (ev_pos (by omega) ?_))
    by_cases h1 : c < 1
    · exact ev_pos h1 (ev_now (by simp only [ordGo]; rw [if_neg (fun h => by omega)]))
    refine ev_neg h1 ?_
    by_cases h2 : c > (l.length : Int)
    · exact ev_pos h2 (ev_now (by simp only [ordGo]; rw [if_neg (fun h => by omega)]))
    refine ev_neg h2 (ev_pos (by omega) (ev_bind (contains_ev pre c (by omega)) ?_))
    by_cases hc : c ∈ pre
    · exact ev_pos (by simp [hc]) (ev_now (by simp [ordGo, hc]))
    · refine ev_neg (by simp [hc]) ?_
      rw [wrap_snoc (pre := pre) (c := c) (by omega)]
      refine ev_eq (ih _ (snoc_mid e)) ?_
      simp only [ordGo]
      rw [if_pos ⟨by omega, by omega, hc⟩]
theorem impl_order_ev (l : List Int) (hl : l.length ≤ 140737488351232) : Ev (fun k => impl_isOrder.f k l) (isOrd l) := by
  have key : ∀ b : Bool, Ev (fun k => impl_isOrder.j0 k l b) (if b = true then false else ordGo (l.length : Int) [] l) := by
    intro b
    refine ev_succ ?_
    simp only [impl_isOrder.j0.eq_2]
    cases b with
    | true => exact ev_pos rfl (ev_now rfl)
    | false => exact ev_neg (by simp) (impl_order_l l hl l [] rfl)
  unfold impl_isOrder.f isOrd
  by_cases h1 : (l.length : Int) < 1
  · refine ev_pos h1 (ev_eq (key true) ?_)
    rw [if_pos rfl, if_neg (fun h => by omega)]
  · refine ev_neg h1 (ev_eq (key _) ?_)
    by_cases h2 : (l.length : Int) > 7
    · rw [if_neg (c := 1 ≤ l.length ∧ l.length ≤ 7) (fun h => by omega), if_pos (decide_eq_true h2)]
    · rw [if_pos (c := 1 ≤ l.length ∧ l.length ≤ 7) ⟨by omega, by omega⟩, if_neg (by simp; omega)]

/-! ### laws.markIntS, laws.heldIntS -/
theorem mark_l : ∀ (suf pre : List Int) (x : Int), 0 ≤ x → x + suf.length ≤ 4611686018427387904 → pre.length + suf.length ≤ 4611686018427387904 → Ev (fun k => laws_markIntS.l0 k (pre ++ suf) x (pre.length : Int)) (x + suf.length, pre ++ iota x suf.length) := by
  intro suf
  induction suf with
  | nil =>
    intro pre x h0 h1 h2
    refine ev_succ ?_
    simp only [laws_markIntS.l0.eq_2]
    refine ev_neg (by simp) ?_
    exact ev_now (by simp [iota])
  | cons c suf ih =>
    intro pre x h0 h1 h2
    simp only [List.length_cons] at h1 h2
    refine ev_succ ?_
    simp only [laws_markIntS.l0.eq_2]
    refine ev_pos (by simp; omega) (ev_pos (by omega) ?_)
    have e2 : (pre ++ c :: suf).set ((pre.length : Int)).toNat x = (pre ++ [x]) ++ suf := by simp
    rw [wrap_snoc (pre := pre) (c := x) (by omega), e2, wrap_of (by omega) (by omega)]
    refine ev_eq (ih (pre ++ [x]) (x + 1) (by omega) (by omega) (by simp; omega)) ?_
    simp [iota]; omega
theorem mark_ev (l : List Int) (x : Int) (h0 : 0 ≤ x) (h1 : x + l.length ≤ 4611686018427387904) : Ev (fun k => laws_markIntS.f k l x) (x + l.length, iota x l.length) := by
  unfold laws_markIntS.f
  have := mark_l l [] x h0 h1 (by simp; omega)
  simpa using this
theorem held_l : ∀ (n : Nat) (pre : List Int) (x : Int), 0 ≤ x → x + n ≤ 4611686018427387904 → pre.length + n ≤ 4611686018427387904 → Ev (fun k => laws_heldIntS.l0 k (pre ++ iota x n) x (pre.length : Int)) (x + n) := by
  intro n
  induction n with
  | zero =>
    intro pre x h0 h1 h2
    refine ev_succ ?_
    simp only [laws_heldIntS.l0.eq_2]
    refine ev_neg (by simp [iota]) ?_
    exact ev_now (by simp)
  | succ n ih =>
    intro pre x h0 h1 h2
    refine ev_succ ?_
    simp only [laws_heldIntS.l0.eq_2, iota, rd_mid]
    refine ev_pos (by simp; omega) (ev_pos (by omega) (ev_pos trivial ?_))
    rw [wrap_snoc (pre := pre) (c := x) (by omega), wrap_of (by omega) (by omega), show pre ++ x :: iota (x + 1) n = (pre ++ [x]) ++ iota (x + 1) n by simp]
    refine ev_eq (ih (pre ++ [x]) (x + 1) (by omega) (by omega) (by simp; omega)) ?_
    omega
theorem held_ev (n : Nat) (x : Int) (h0 : 0 ≤ x) (h1 : x + n ≤ 4611686018427387904) : Ev (fun k => laws_heldIntS.f k (iota x n) x) (x + n) := by
  unfold laws_heldIntS.f
  have := held_l n [] x h0 h1 (by simp; omega)
  simpa using this

/-! ### Is it a word? How deep? -/
theorem spec_word_l (w : ByteArray) (hw : w.size ≤ 140737488351232) : ∀ (suf pre : List Int) (d : Int), bytesOf w = pre ++ suf → 0 ≤ d → d ≤ pre.length → Ev (fun k => spec_l2Word.l0 k w d (pre.length : Int)) (wGo suf d) := by
  intro suf
  induction suf with
  | nil =>
    intro pre d e h0 h1
    have h := size_end e
    refine ev_succ ?_
    simp only [spec_l2Word.l0.eq_2]
    exact ev_neg (by omega) (ev_now rfl)
  | cons c suf ih =>
    intro pre d e h0 h1
    have h := size_mid e
    refine ev_succ ?_
    simp only [spec_l2Word.l0.eq_2, bt_mid e]
    refine ev_pos (by omega) (ev_pos (by omega) ?_)
    by_cases hI : c = 73
    · refine ev_pos hI ?_
      rw [wrap_snoc (pre := pre) (c := c) (by omega), wrap_of (x := d + 1) (by omega) (by omega)]
      refine ev_eq (ih _ (d + 1) (snoc_mid e) (by omega) (by simp; omega)) ?_
      simp only [wGo]; rw [if_pos hI]
    · refine ev_neg hI ?_
      by_cases hO : c = 79
      · refine ev_pos hO ?_
        by_cases hd : d > 0
        · refine ev_pos hd ?_
          rw [wrap_snoc (pre := pre) (c := c) (by omega), wrap_of (x := d - 1) (by omega) (by omega)]
          refine ev_eq (ih _ (d - 1) (snoc_mid e) (by omega) (by simp; omega)) ?_
          simp only [wGo]; rw [if_neg hI, if_pos hO, if_pos hd]
        · refine ev_neg hd (ev_now ?_)
          simp only [wGo]; rw [if_neg hI, if_pos hO, if_neg hd]
      · refine ev_neg hO (ev_now ?_)
        simp only [wGo]; rw [if_neg hI, if_neg hO]
theorem spec_word_ev (w : ByteArray) (n : Int) (hw : w.size ≤ 140737488351232) (h0 : 0 ≤ n) (h1 : n ≤ 140737488351232) : Ev (fun k => spec_l2Word.f k w n) (decide ((w.size : Int) = 2 * n) && wGo (bytesOf w) 0) := by
  unfold spec_l2Word.f
  rw [wrap_of (by omega) (by omega)]
  by_cases h : (w.size : Int) = 2 * n
  · refine ev_pos h (ev_eq (spec_word_l w hw (bytesOf w) [] 0 rfl (by omega) (by simp)) ?_)
    simp [h]
  · exact ev_neg h (ev_now (by simp [h]))

theorem isSize_ev (n : Int) : Ev (fun _ => impl_isSize.f n) (decide (1 ≤ n) && decide (n ≤ 7)) := by
  unfold impl_isSize.f
  by_cases h : n ≥ 1
  · refine ev_pos h (ev_now ?_)
    have : decide (1 ≤ n) = true := decide_eq_true h
    rw [this]; rfl
  · refine ev_neg h (ev_now ?_)
    have : decide (1 ≤ n) = false := decide_eq_false (by omega)
    rw [this]; rfl

theorem depth_l (w : ByteArray) (hw : w.size ≤ 140737488351232) : ∀ (suf pre : List Int) (d m : Int), bytesOf w = pre ++ suf → 0 ≤ d → d ≤ pre.length → Ev (fun k => impl_depthOf.l0 k w d m (w.size : Int) (pre.length : Int)) (if wGo suf d = true ∧ 2 ≤ w.size ∧ w.size ≤ 15 then (wDeep suf d m, true) else (0, false)) := by
  intro suf
  induction suf with
  | nil =>
    intro pre d m e h0 h1
    have h := size_end e
    refine ev_succ ?_
    simp only [impl_depthOf.l0.eq_2]
    refine ev_neg (by omega) ?_
    by_cases hd : d = 0
    · refine ev_pos hd ?_
      rw [wrap_of (by omega) (by omega)]
      refine ev_bind (isSize_ev _) ?_
      by_cases hs : 2 ≤ w.size ∧ w.size ≤ 15
      · refine ev_pos (by simp; omega) (ev_now ?_)
        rw [if_pos ⟨by simp [wGo, hd], hs.1, hs.2⟩]; rfl
      · refine ev_neg (by simp; omega) (ev_now ?_)
        rw [if_neg (fun h => hs h.2)]
    · refine ev_neg hd (ev_now ?_)
      rw [if_neg (fun h => hd (by simpa [wGo] using h.1))]
  | cons c suf ih =>
    intro pre d m e h0 h1
    have h := size_mid e
    refine ev_succ ?_
    simp only [impl_depthOf.l0.eq_2, bt_mid e]
    refine ev_pos (by omega) (ev_pos (by omega) (ev_pos (by omega) ?_))
    rw [wrap_snoc (pre := pre) (c := c) (by omega), wrap_of (x := d + 1) (by omega) (by omega), wrap_of (x := d - 1) (by omega) (by omega)]
    by_cases hI : c = 73
    · refine ev_pos hI (ev_neg (by omega) ?_)
      refine ev_eq (ih _ (d + 1) _ (snoc_mid e) (by omega) (by simp; omega)) ?_
      subst hI; rw [wGo_in, wDeep_in]
    · refine ev_neg hI ?_
      by_cases hO : c = 79
      · refine ev_pos hO ?_
        by_cases hd : d > 0
        · refine ev_neg (by omega) ?_
          refine ev_eq (ih _ (d - 1) _ (snoc_mid e) (by omega) (by simp; omega)) ?_
          subst hO; rw [wGo_out, wDeep_out, if_pos hd]
        · refine ev_pos (by omega) (ev_now ?_)
          rw [if_neg]; simp only [wGo]; rw [if_neg hI, if_pos hO, if_neg hd]; simp
      · refine ev_neg hO (ev_now ?_)
        rw [if_neg]; simp only [wGo]; rw [if_neg hI, if_neg hO]; simp
theorem depth_ev (w : ByteArray) (hw : w.size ≤ 140737488351232) : Ev (fun k => impl_depthOf.f k w) (if isWd (bytesOf w) = true then (wDeep (bytesOf w) 0 0, true) else (0, false)) := by
  unfold impl_depthOf.f
  refine ev_eq (depth_l w hw (bytesOf w) [] 0 0 rfl (by omega) (by simp)) ?_
  have hb := bytes_len w
  by_cases h : isWd (bytesOf w) = true
  · have h' := (isWd_iff _).1 h
    rw [hb] at h'
    rw [if_pos h, if_pos ⟨h'.2, h'.1.1, by omega⟩]
  · rw [if_neg h, if_neg]
    intro ⟨h1, h2, h3⟩
    have := wGo_even _ _ h1
    rw [hb] at this
    exact h ((isWd_iff _).2 ⟨by rw [hb]; omega, h1⟩)

theorem isWord_ev (w : ByteArray) (hw : w.size ≤ 140737488351232) : Ev (fun k => impl_isWord.f k w) (isWd (bytesOf w)) := by
  unfold impl_isWord.f
  refine ev_bind (depth_ev w hw) (ev_now ?_)
  by_cases h : isWd (bytesOf w) = true
  · rw [if_pos h, h]
  · rw [if_neg h]; simpa using h

/-! ### what comes out by a word -/
theorem spec_run_l (l : List Int) (w : ByteArray) (hl : l.length ≤ 7) (hw : w.size ≤ 14) : ∀ (suf pre rem done st out : List Int), bytesOf w = pre ++ suf → l = done ++ rem → wGo suf (st.length : Int) = true → suf.length = 2 * rem.length + st.length → out.length + st.length ≤ 7 → done.length = out.length + st.length → Ev (fun k => spec_l2Run.l0 k l w out.reverse st.reverse (done.length : Int) (pre.length : Int)) (runGo suf rem st out) := by
  intro suf
  induction suf with
  | nil =>
    intro pre rem done st out e el hg h2 h3 h4
    have h := size_end e
    refine ev_succ ?_
    simp only [spec_l2Run.l0.eq_2]
    exact ev_neg (by omega) (ev_now (by simp [runGo]))
  | cons c suf ih =>
    intro pre rem done st out e el hg h2 h3 h4
    have h := size_mid e
    simp only [List.length_cons] at h2
    refine ev_succ ?_
    simp only [spec_l2Run.l0.eq_2, bt_mid e]
    rw [wrap_snoc (pre := pre) (c := c) (by omega)]
    refine ev_pos (by omega) (ev_pos (by omega) ?_)
    by_cases hI : c = 73
    · subst hI
      rw [wGo_in] at hg
      have hlen := wGo_len _ _ (by omega) hg
      cases rem with
      | nil => simp only [List.length_nil] at h2; omega
      | cons x rem =>
        have hd := len_mid el
        simp only [List.length_cons] at h2
        rw [rd_mid' el, wrap_snoc (pre := done) (c := x) (by omega), show st.reverse ++ [x] = (x :: st).reverse by simp]
        refine ev_pos rfl (ev_pos (by omega) (ev_pos (by omega) (ev_pos (by simp; omega) ?_)))
        refine ev_eq (ih _ rem (done ++ [x]) (x :: st) out (snoc_mid e) (snoc_mid el) ?_ ?_ ?_ ?_) ?_
        · simpa using hg
        · simp only [List.length_cons]; omega
        · simp only [List.length_cons]; omega
        · simp; omega
        · simp [runGo]
    · by_cases hO : c = 79
      · subst hO
        rw [wGo_out] at hg
        by_cases hd : (st.length : Int) > 0
        · rw [if_pos hd] at hg
          cases st with
          | nil => simp at hd
          | cons x st =>
            simp only [List.length_cons] at hg h2 h3 h4
            have hlen : ((x :: st).reverse.length : Int) = st.length + 1 := by simp
            rw [wrap_of (x := ((x :: st).reverse.length : Int) - 1) (by omega) (by omega), top_rev, pop_rev, show out.reverse ++ [x] = (x :: out).reverse by simp]
            refine ev_neg hI (ev_pos (by omega) (ev_pos (by omega) (ev_pos (by simp; omega) (ev_pos (by omega) ?_))))
            refine ev_eq (ih _ rem done st (x :: out) (snoc_mid e) el ?_ ?_ ?_ ?_) ?_
            · rw [show ((st.length : Nat) : Int) = ((st.length + 1 : Nat) : Int) - 1 by omega]; exact hg
            · omega
            · simp only [List.length_cons]; omega
            · simp only [List.length_cons]; omega
            · simp [runGo]
        · rw [if_neg hd] at hg; cases hg
      · simp only [wGo] at hg
        rw [if_neg hI, if_neg hO] at hg; cases hg
theorem spec_run_ev (l : List Int) (w : ByteArray) (hl : l.length ≤ 7) (hg : wGo (bytesOf w) 0 = true) (hw : w.size = 2 * l.length) : Ev (fun k => spec_l2Run.f k l w) (runL l (bytesOf w)) := by
  unfold spec_l2Run.f
  exact spec_run_l l w hl (by omega) (bytesOf w) [] l [] [] [] rfl rfl (by simpa using hg) (by rw [bytes_len]; simp; omega) (by simp) (by simp)

theorem impl_run_l (w : ByteArray) (hw : w.size ≤ 14) : ∀ (suf pre rem st out : List Int), bytesOf w = pre ++ suf → wGo suf (st.length : Int) = true → suf.length = 2 * rem.length + st.length → out.length + st.length + rem.length ≤ 7 → Ev (fun k => impl_runWord.l0 k rem w st.reverse out.reverse (w.size : Int) (pre.length : Int)) (runGo suf rem st out) := by
  intro suf
  induction suf with
  | nil =>
    intro pre rem st out e hg h2 h3
    have h := size_end e
    refine ev_succ ?_
    simp only [impl_runWord.l0.eq_2]
    exact ev_neg (by omega) (ev_now (by simp [runGo]))
  | cons c suf ih =>
    intro pre rem st out e hg h2 h3
    have h := size_mid e
    simp only [List.length_cons] at h2
    refine ev_succ ?_
    simp only [impl_runWord.l0.eq_2, bt_mid e]
    rw [wrap_snoc (pre := pre) (c := c) (by omega)]
    refine ev_pos (by omega) (ev_pos (by omega) (ev_pos (by omega) ?_))
    by_cases hI : c = 73
    · subst hI
      rw [wGo_in] at hg
      have hlen := wGo_len _ _ (by omega) hg
      cases rem with
      | nil => simp only [List.length_nil] at h2; omega
      | cons x rem =>
        simp only [List.length_cons] at h2 h3
        rw [show rd (x :: rem) 0 = x from rfl, show st.reverse ++ [x] = (x :: st).reverse by simp, show (x :: rem).drop 1 = rem from rfl]
        refine ev_pos rfl (ev_pos (by simp only [List.length_cons]; omega) (ev_pos (by simp; omega) (ev_pos (by simp only [List.length_cons]; omega) ?_)))
        refine ev_eq (ih _ rem (x :: st) out (snoc_mid e) ?_ ?_ ?_) ?_
        · simpa using hg
        · simp only [List.length_cons]; omega
        · simp only [List.length_cons]; omega
        · simp [runGo]
    · by_cases hO : c = 79
      · subst hO
        rw [wGo_out] at hg
        by_cases hd : (st.length : Int) > 0
        · rw [if_pos hd] at hg
          cases st with
          | nil => simp at hd
          | cons x st =>
            simp only [List.length_cons] at hg h2 h3
            have hlen : ((x :: st).reverse.length : Int) = st.length + 1 := by simp
            rw [wrap_of (x := ((x :: st).reverse.length : Int) - 1) (by omega) (by omega), top_rev, pop_rev, show out.reverse ++ [x] = (x :: out).reverse by simp]
            refine ev_neg hI (ev_pos (by omega) (ev_pos (by omega) (ev_pos (by simp; omega) (ev_pos (by omega) ?_))))
            refine ev_eq (ih _ rem st (x :: out) (snoc_mid e) ?_ ?_ ?_) ?_
            · rw [show ((st.length : Nat) : Int) = ((st.length + 1 : Nat) : Int) - 1 by omega]; exact hg
            · omega
            · simp only [List.length_cons]; omega
            · simp [runGo]
        · rw [if_neg hd] at hg; cases hg
      · simp only [wGo] at hg
        rw [if_neg hI, if_neg hO] at hg; cases hg
theorem impl_run_ev (l : List Int) (w : ByteArray) (hl : l.length ≤ 7) (hg : wGo (bytesOf w) 0 = true) (hw : w.size = 2 * l.length) : Ev (fun k => impl_runWord.f k l w) (runL l (bytesOf w)) := by
  unfold impl_runWord.f
  exact impl_run_l w (by omega) (bytesOf w) [] l [] [] rfl (by simpa using hg) (by rw [bytes_len]; simp; omega) (by simp; omega)

theorem spec_runword_ev (l : List Int) (w : ByteArray) (hl : l.length ≤ 140737488351232) (hw : w.size ≤ 140737488351232) : Ev (fun k => spec_RunWord.f k l w) (runR l w) := by
  unfold spec_RunWord.f runR
  refine ev_bind (spec_order_ev l hl) ?_
  have hb := bytes_len w
  by_cases ho : isOrd l = true
  · have h7 := ord_len ho
    refine ev_pos ho (ev_bind (spec_word_ev w (l.length : Int) hw (by omega) (by omega)) ?_)
    by_cases h : w.size = 2 * l.length ∧ wGo (bytesOf w) 0 = true
    · refine ev_pos (by simp [h.2]; omega) (ev_bind (spec_run_ev l w h7.2 h.2 h.1) (ev_now ?_))
      rw [if_pos ⟨ho, (isWd_iff _).2 ⟨by rw [hb]; omega, h.2⟩, h.1⟩]
    · refine ev_neg (fun h' => h ?_) (ev_now ?_)
      · simp at h'; exact ⟨by omega, h'.2⟩
      · rw [if_neg (fun h' => h ⟨h'.2.2, ((isWd_iff _).1 h'.2.1).2⟩)]
  · refine ev_neg ho (ev_now ?_)
    rw [if_neg (fun h' => ho h'.1)]
theorem impl_runword_ev (l : List Int) (w : ByteArray) (hl : l.length ≤ 140737488351232) (hw : w.size ≤ 140737488351232) : Ev (fun k => impl_RunWord.f k l w) (runR l w) := by
  unfold impl_RunWord.f runR
  refine ev_bind (impl_order_ev l hl) ?_
  by_cases ho : isOrd l = true
  · have h7 := ord_len ho
    refine ev_pos ho (ev_bind (isWord_ev w hw) ?_)
    by_cases hg : isWd (bytesOf w) = true
    · refine ev_pos hg ?_
      rw [wrap_of (by omega) (by omega)]
      by_cases h : w.size = 2 * l.length
      · refine ev_pos (by omega) (ev_bind (impl_run_ev l w h7.2 ((isWd_iff _).1 hg).2 h) (ev_now ?_))
        rw [if_pos ⟨ho, hg, h⟩]
      · refine ev_neg (by omega) (ev_now ?_)
        rw [if_neg (fun h' => h h'.2.2)]
    · refine ev_neg hg (ev_now ?_)
      rw [if_neg (fun h' => hg h'.2.1)]
  · refine ev_neg ho (ev_now ?_)
    rw [if_neg (fun h' => ho h'.1)]
theorem runR_length (l : List Int) (w : ByteArray) : (runR l w).1.length ≤ 14 := by
  unfold runR
  split
  · rename_i h
    have := runGo_length (bytesOf w) l [] []
    have h7 := ord_len h.1
    rw [bytes_len] at this
    simp only [runL, List.length_nil] at this ⊢; omega
  · simp

theorem frame (l out : List Int) (w : ByteArray) (b : Bool) (hl : l.length * 8 ≤ 140737488351232) (ho : out.length ≤ 1000000)
    (hs : Ev (fun k => spec_RunWord.f k l w) (out, b)) (hi : Ev (fun k => impl_RunWord.f k l w) (out, b)) : Ev (fun k => laws_FnExactRunWord.f k l w) true := by
  unfold laws_FnExactRunWord.f
  by_cases h1 : (l.length : Int) > 1048576
  · exact ev_pos h1 (ev_now rfl)
  refine ev_neg h1 ?_
  by_cases h2 : (w.size : Int) > 1048576
  · exact ev_pos h2 (ev_now rfl)
  refine ev_neg h2 (ev_bind (toInt_ev l hl) (ev_bind hs (ev_bind (toInt_ev l hl) (ev_bind hi (ev_bind (eqInt_ev out out (by omega)) (ev_pos (by simp) ?_))))))
  refine ev_succ ?_
  simp only [laws_FnExactRunWord.j0.eq_2]
  refine ev_neg (by simp) (ev_bind (toInt_ev l hl) (ev_bind (eqInt_ev l l hl) (ev_pos (by simp) (ev_bind (mark_ev l 1 (by omega) (by omega)) (ev_neg (by omega) (ev_bind (eqInt_ev out out (by omega)) (ev_pos (by simp) ?_)))))))
  refine ev_succ ?_
  simp only [laws_FnExactRunWord.j1.eq_2]
  refine ev_neg (by simp) (ev_bind (mark_ev out 1 (by omega) (by omega)) (ev_bind (held_ev _ 1 (by omega) (by omega)) (ev_neg (by omega) (ev_pos rfl (ev_bind (toInt_ev l hl) (ev_bind hi (ev_bind (eqInt_ev out out (by omega)) (ev_pos (by simp) ?_))))))))
  refine ev_succ ?_
  simp only [laws_FnExactRunWord.j2.eq_2]
  exact ev_neg (by simp) (ev_bind (held_ev _ 1 (by omega) (by omega)) (ev_neg (by omega) (ev_pos rfl (ev_now rfl))))
theorem FnExactRunWord : laws_FnExactRunWord.Pure := by
  intro l w hm hl hw hs
  apply Ev.rounds (r := true)
  have hl' := len_max hl
  exact frame l (runR l w).1 w (runR l w).2 hl (by have := runR_length l w; omega) (spec_runword_ev l w hl' hs) (impl_runword_ev l w hl' hs)
end Go.Proofs.Ytdiecblalplalaa.Pure
