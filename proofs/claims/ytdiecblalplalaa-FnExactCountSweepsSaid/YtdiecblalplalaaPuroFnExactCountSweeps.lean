/- The pure statement of FnExactCountSweeps: program and reference count alike; that the sweeps end is seen at each of the 5913 orders. No condition. -/
import Derived.Test.YtdiecblalplalaaMFnExactCountSweepsx6
import Derived.Test.YtdiecblalplalaaBase
import Derived.Test.YtdiecblalplalaaBaseW
import Derived.Test.YtdiecblalplalaaBaseR
import Derived.Test.YtdiecblalplalaaBaseO
import Derived.Test.YtdiecblalplalaaBaseG
namespace Go.Proofs.Ytdiecblalplalaa.Pure
open Go Go.RowKit Go.Proofs.Ytdiecblalplalaa.MFnExactCountSweeps Go.Proofs.YtdiecblalplalaaW.PrintWords Go.Proofs.Ytdiecblalplalaa.Base
set_option linter.unusedVariables false
set_option linter.unusedSimpArgs false
/-! ### laws.toIntS, laws.eqIntS -/
theorem toInt_l (l : List Int) (hl : l.length * 8 ≤ 140737488351232) : ∀ (suf pre : List Int), l = pre ++ suf → Ev (fun k => laws_toIntS.l0 k l (pre ++ List.replicate suf.length 0) (pre.length : Int)) l := by
  intro suf
  induction suf with
  | nil =>
    intro pre e
    have h := len_end e
    refine ev_succ ?_
    simp only [laws_toIntS.l0.eq_2]
    refine ev_neg (by omega) ?_
    exact ev_now (by rw [e]; simp)
  | cons c suf ih =>
    intro pre e
    have h := len_mid e
    refine ev_succ ?_
    simp only [laws_toIntS.l0.eq_2, rd_mid' e]
    refine ev_pos (by omega) (ev_pos (by omega) (ev_pos (by simp; omega) ?_))
    rw [wrap_snoc (pre := pre) (c := c) (by omega)]
    have e2 : (pre ++ List.replicate (c :: suf).length 0).set ((pre.length : Int)).toNat c = (pre ++ [c]) ++ List.replicate suf.length 0 := by
      simp [List.replicate_succ]
    rw [e2]
    exact ih _ (snoc_mid e)
theorem toInt_ev (l : List Int) (hl : l.length * 8 ≤ 140737488351232) : Ev (fun k => laws_toIntS.f k l) l := by
  unfold laws_toIntS.f
  refine ev_pos (by omega) (ev_pos (by omega) ?_)
  have := toInt_l l hl l [] rfl
  simpa using this

theorem eqInt_l (a b : List Int) (hl : a.length * 8 ≤ 140737488351232) : ∀ (s t pre q : List Int), a = pre ++ s → b = q ++ t → pre.length = q.length → s.length = t.length → Ev (fun k => laws_eqIntS.l0 k a b (pre.length : Int)) (decide (s = t)) := by
  intro s
  induction s with
  | nil =>
    intro t pre q e e' h1 h2
    have h := len_end e
    obtain rfl : t = [] := by cases t with
      | nil => rfl
      | cons _ _ => simp at h2
    refine ev_succ ?_
    simp only [laws_eqIntS.l0.eq_2]
    refine ev_neg (by omega) ?_
    exact ev_now (by simp)
  | cons c s ih =>
    intro t pre q e e' h1 h2
    cases t with
    | nil => simp at h2
    | cons d t =>
    have h := len_mid e
    have h' := len_mid e'
    refine ev_succ ?_
    have r1 := rd_mid' e
    have r2 := rd_mid' e'
    rw [← h1] at r2
    simp only [laws_eqIntS.l0.eq_2, r1, r2]
    refine ev_pos (by omega) (ev_pos (by omega) (ev_pos (by omega) ?_))
    by_cases hc : c = d
    · refine ev_pos hc ?_
      rw [wrap_snoc (pre := pre) (c := c) (by omega)]
      refine ev_eq (ih t (pre ++ [c]) (q ++ [d]) (snoc_mid e) (snoc_mid e') (by simp [h1]) (by simpa using h2)) ?_
      simp [hc]
    · refine ev_neg hc (ev_now ?_)
      simp [hc]
theorem eqInt_ev (a b : List Int) (hl : a.length * 8 ≤ 140737488351232) : Ev (fun k => laws_eqIntS.f k a b) (decide (a = b)) := by
  unfold laws_eqIntS.f
  by_cases h : a.length = b.length
  · refine ev_pos (by omega) ?_
    exact eqInt_l a b hl a b [] [] rfl rfl rfl h
  · refine ev_neg (by omega) (ev_now ?_)
    symm
    exact decide_eq_false (fun e => h (by rw [e]))

theorem same_l (a b : List Int) (hl : a.length * 8 ≤ 140737488351232) : ∀ (s t pre q : List Int), a = pre ++ s → b = q ++ t → pre.length = q.length → s.length = t.length → Ev (fun k => spec_l1Same.l0 k a b (pre.length : Int)) (decide (s = t)) := by
  intro s
  induction s with
  | nil =>
    intro t pre q e e' h1 h2
    have h := len_end e
    obtain rfl : t = [] := by cases t with
      | nil => rfl
      | cons _ _ => simp at h2
    refine ev_succ ?_
    simp only [spec_l1Same.l0.eq_2]
    refine ev_neg (by omega) ?_
    exact ev_now (by simp)
  | cons c s ih =>
    intro t pre q e e' h1 h2
    cases t with
    | nil => simp at h2
    | cons d t =>
    have h := len_mid e
    have h' := len_mid e'
    refine ev_succ ?_
    have r1 := rd_mid' e
    have r2 := rd_mid' e'
    rw [← h1] at r2
    simp only [spec_l1Same.l0.eq_2, r1, r2]
    refine ev_pos (by omega) (ev_pos (by omega) (ev_pos (by omega) ?_))
    by_cases hc : c = d
    · refine ev_pos hc ?_
      rw [wrap_snoc (pre := pre) (c := c) (by omega)]
      refine ev_eq (ih t (pre ++ [c]) (q ++ [d]) (snoc_mid e) (snoc_mid e') (by simp [h1]) (by simpa using h2)) ?_
      simp [hc]
    · refine ev_neg hc (ev_now ?_)
      simp [hc]
theorem same_ev (a b : List Int) (hl : a.length * 8 ≤ 140737488351232) : Ev (fun k => spec_l1Same.f k a b) (decide (a = b)) := by
  unfold spec_l1Same.f
  by_cases h : a.length = b.length
  · refine ev_pos (by omega) ?_
    exact same_l a b hl a b [] [] rfl rfl rfl h
  · refine ev_neg (by omega) (ev_now ?_)
    symm
    exact decide_eq_false (fun e => h (by rw [e]))

/-! ### Is it an order? -/
theorem in_ev (a b c : Int) : Ev (fun _ => spec_l1In.f a b c) (decide (b ≤ a) && decide (a ≤ c)) := by
  unfold spec_l1In.f
  by_cases h : a ≥ b
  · refine ev_pos h (ev_now ?_)
    have : decide (b ≤ a) = true := decide_eq_true h
    rw [this]; rfl
  · refine ev_neg h (ev_now ?_)
    have : decide (b ≤ a) = false := decide_eq_false (by omega)
    rw [this]; rfl

theorem has_l (l : List Int) (x : Int) (hl : l.length ≤ 140737488351232) : ∀ (suf pre : List Int), l = pre ++ suf → Ev (fun k => spec_l1Has.l0 k l x (pre.length : Int)) (decide (x ∈ suf)) := by
  intro suf
  induction suf with
  | nil =>
    intro pre e
    have h := len_end e
    refine ev_succ ?_
    simp only [spec_l1Has.l0.eq_2]
    refine ev_neg (by omega) ?_
    exact ev_now (by simp)
  | cons c suf ih =>
    intro pre e
    have h := len_mid e
    refine ev_succ ?_
    simp only [spec_l1Has.l0.eq_2, rd_mid' e]
    refine ev_pos (by omega) (ev_pos (by omega) ?_)
    by_cases hc : c = x
    · exact ev_pos hc (ev_now (by simp [hc]))
    · refine ev_neg hc ?_
      rw [wrap_snoc (pre := pre) (c := c) (by omega)]
      refine ev_eq (ih _ (snoc_mid e)) ?_
      have : x ≠ c := fun h => hc h.symm
      simp [this]
theorem has_ev (l : List Int) (x : Int) (hl : l.length ≤ 140737488351232) : Ev (fun k => spec_l1Has.f k l x) (decide (x ∈ l)) := by
  unfold spec_l1Has.f
  exact has_l l x hl l [] rfl
theorem idx_l (l : List Int) (x : Int) (hl : l.length ≤ 140737488351232) : ∀ (suf pre : List Int), l = pre ++ suf → Ev (fun k => slices_Index_int_int.l0 k l x (l.length : Int) (pre.length : Int)) (if x ∈ suf then ((pre.length + suf.idxOf x : Nat) : Int) else -1) := by
  intro suf
  induction suf with
  | nil =>
    intro pre e
    have h := len_end e
    refine ev_succ ?_
    simp only [slices_Index_int_int.l0.eq_2]
    refine ev_neg (by omega) ?_
    exact ev_now (by simp)
  | cons c suf ih =>
    intro pre e
    have h := len_mid e
    refine ev_succ ?_
    simp only [slices_Index_int_int.l0.eq_2, rd_mid' e]
    refine ev_pos (by omega) (ev_pos (by omega) (ev_pos (by omega) ?_))
    by_cases hc : x = c
    · exact ev_pos hc (ev_now (by simp [hc]))
    · refine ev_neg hc ?_
      rw [wrap_snoc (pre := pre) (c := c) (by omega)]
      refine ev_eq (ih _ (snoc_mid e)) ?_
      have hc' : ¬ c = x := fun h => hc h.symm
      have hb : (c == x) = false := by simpa using hc'
      simp only [List.mem_cons, hc, false_or, List.idxOf_cons, hb, cond_false]
      by_cases hm : x ∈ suf
      · rw [if_pos hm, if_pos hm]; simp; omega
      · rw [if_neg hm, if_neg hm]
theorem idx_ev (l : List Int) (x : Int) (hl : l.length ≤ 140737488351232) : Ev (fun k => slices_Index_int_int.f k l x) (if x ∈ l then ((l.idxOf x : Nat) : Int) else -1) := by
  unfold slices_Index_int_int.f
  simpa using idx_l l x hl l [] rfl
theorem contains_ev (l : List Int) (x : Int) (hl : l.length ≤ 140737488351232) : Ev (fun k => slices_Contains_int_int.f k l x) (decide (x ∈ l)) := by
  unfold slices_Contains_int_int.f
  refine ev_bind (idx_ev l x hl) (ev_now ?_)
  by_cases h : x ∈ l
  · simp [h]
  · simp [h]

theorem spec_order_l (l : List Int) (hl : l.length ≤ 140737488351232) : ∀ (suf pre : List Int), l = pre ++ suf → Ev (fun k => spec_l2Order.l0 k l (pre.length : Int)) (ordGo (l.length : Int) pre suf) := by
  intro suf
  induction suf with
  | nil =>
    intro pre e
    have h := len_end e
    refine ev_succ ?_
    simp only [spec_l2Order.l0.eq_2]
    refine ev_neg (by omega) ?_
    exact ev_now rfl
  | cons c suf ih =>
    intro pre e
    have h := len_mid e
    refine ev_succ ?_
    simp only [spec_l2Order.l0.eq_2, rd_mid' e, take_mid e]
    refine ev_pos (by omega) (ev_pos (by omega) (ev_bind (in_ev _ _ _) ?_))
    by_cases hr : 1 ≤ c ∧ c ≤ (l.length : Int)
    · refine ev_pos (by simp [hr.1, hr.2]) (ev_pos (by omega) (ev_bind (has_ev pre c (by omega)) ?_))
      by_cases hc : c ∈ pre
      · exact ev_pos (by simp [hc]) (ev_now (by simp [ordGo, hc]))
      · refine ev_neg (by simp [hc]) ?_
        rw [wrap_snoc (pre := pre) (c := c) (by omega)]
        refine ev_eq (ih _ (snoc_mid e)) ?_
        simp [ordGo, hr.1, hr.2, hc]
    · refine ev_neg (by simp; omega) (ev_now ?_)
      simp only [ordGo]
      rw [if_neg (fun h => hr ⟨h.1, h.2.1⟩)]
theorem spec_order_ev (l : List Int) (hl : l.length ≤ 140737488351232) : Ev (fun k => spec_l2Order.f k l) (isOrd l) := by
  unfold spec_l2Order.f
  refine ev_bind (in_ev _ _ _) ?_
  unfold isOrd
  by_cases h : 1 ≤ l.length ∧ l.length ≤ 7
  · refine ev_pos (by simp; omega) ?_
    rw [if_pos h]
    exact spec_order_l l hl l [] rfl
  · refine ev_neg (by simp; omega) (ev_now ?_)
    rw [if_neg h]
theorem impl_order_l (l : List Int) (hl : l.length ≤ 140737488351232) : ∀ (suf pre : List Int), l = pre ++ suf → Ev (fun k => impl_isOrder.l0 k l l (l.length : Int) (pre.length : Int)) (ordGo (l.length : Int) pre suf) := by
  intro suf
  induction suf with
  | nil =>
    intro pre e
    have h := len_end e
    refine ev_succ ?_
    simp only [impl_isOrder.l0.eq_2]
    refine ev_neg (by omega) ?_
    exact ev_now rfl
  | cons c suf ih =>
    intro pre e
    have h := len_mid e
    refine ev_succ ?_
    simp only [impl_isOrder.l0.eq_2, rd_mid' e, take_mid e]
    refine ev_pos (by omega) (ev_pos (by omega) (ev_pos (by omega) ?_))
    by_cases h1 : c < 1
    · exact ev_pos h1 (ev_now (by simp only [ordGo]; rw [if_neg (fun h => by omega)]))
    refine ev_neg h1 ?_
    by_cases h2 : c > (l.length : Int)
    · exact ev_pos h2 (ev_now (by simp only [ordGo]; rw [if_neg (fun h => by omega)]))
    refine ev_neg h2 (ev_pos (by omega) (ev_bind (contains_ev pre c (by omega)) ?_))
    by_cases hc : c ∈ pre
    · exact ev_pos (by simp [hc]) (ev_now (by simp [ordGo, hc]))
    · refine ev_neg (by simp [hc]) ?_
      rw [wrap_snoc (pre := pre) (c := c) (by omega)]
      refine ev_eq (ih _ (snoc_mid e)) ?_
      simp only [ordGo]
      rw [if_pos ⟨by omega, by omega, hc⟩]
theorem impl_order_ev (l : List Int) (hl : l.length ≤ 140737488351232) : Ev (fun k => impl_isOrder.f k l) (isOrd l) := by
  have key : ∀ b : Bool, Ev (fun k => impl_isOrder.j0 k l b) (if b = true then false else ordGo (l.length : Int) [] l) := by
    intro b
    refine ev_succ ?_
    simp only [impl_isOrder.j0.eq_2]
    cases b with
    | true => exact ev_pos rfl (ev_now rfl)
    | false => exact ev_neg (by simp) (impl_order_l l hl l [] rfl)
  unfold impl_isOrder.f isOrd
  by_cases h1 : (l.length : Int) < 1
  · refine ev_pos h1 (ev_eq (key true) ?_)
    rw [if_pos rfl, if_neg (fun h => by omega)]
  · refine ev_neg h1 (ev_eq (key _) ?_)
    by_cases h2 : (l.length : Int) > 7
    · rw [if_neg (c := 1 ≤ l.length ∧ l.length ≤ 7) (fun h => by omega), if_pos (decide_eq_true h2)]
    · rw [if_pos (c := 1 ≤ l.length ∧ l.length ≤ 7) ⟨by omega, by omega⟩, if_neg (by simp; omega)]

/-! ### what comes out by a word -/
theorem spec_run_l (l : List Int) (w : ByteArray) (hl : l.length ≤ 7) (hw : w.size ≤ 14) : ∀ (suf pre rem done st out : List Int), bytesOf w = pre ++ suf → l = done ++ rem → wGo suf (st.length : Int) = true → suf.length = 2 * rem.length + st.length → out.length + st.length ≤ 7 → done.length = out.length + st.length → Ev (fun k => spec_l2Run.l0 k l w out.reverse st.reverse (done.length : Int) (pre.length : Int)) (runGo suf rem st out) := by
  intro suf
  induction suf with
  | nil =>
    intro pre rem done st out e el hg h2 h3 h4
    have h := size_end e
    refine ev_succ ?_
    simp only [spec_l2Run.l0.eq_2]
    exact ev_neg (by omega) (ev_now (by simp [runGo]))
  | cons c suf ih =>
    intro pre rem done st out e el hg h2 h3 h4
    have h := size_mid e
    simp only [List.length_cons] at h2
    refine ev_succ ?_
    simp only [spec_l2Run.l0.eq_2, bt_mid e]
    rw [wrap_snoc (pre := pre) (c := c) (by omega)]
    refine ev_pos (by omega) (ev_pos (by omega) ?_)
    by_cases hI : c = 73
    · subst hI
      rw [wGo_in] at hg
      have hlen := wGo_len _ _ (by omega) hg
      cases rem with
      | nil => simp only [List.length_nil] at h2; omega
      | cons x rem =>
        have hd := len_mid el
        simp only [List.length_cons] at h2
        rw [rd_mid' el, wrap_snoc (pre := done) (c := x) (by omega), show st.reverse ++ [x] = (x :: st).reverse by simp]
        refine ev_pos rfl (ev_pos (by omega) (ev_pos (by omega) (ev_pos (by simp; omega) ?_)))
        refine ev_eq (ih _ rem (done ++ [x]) (x :: st) out (snoc_mid e) (snoc_mid el) ?_ ?_ ?_ ?_) ?_
        · simpa using hg
        · simp only [List.length_cons]; omega
        · simp only [List.length_cons]; omega
        · simp; omega
        · simp [runGo]
    · by_cases hO : c = 79
      · subst hO
        rw [wGo_out] at hg
        by_cases hd : (st.length : Int) > 0
        · rw [if_pos hd] at hg
          cases st with
          | nil => simp at hd
          | cons x st =>
            simp only [List.length_cons] at hg h2 h3 h4
            have hlen : ((x :: st).reverse.length : Int) = st.length + 1 := by simp
            rw [wrap_of (x := ((x :: st).reverse.length : Int) - 1) (by omega) (by omega), top_rev, pop_rev, show out.reverse ++ [x] = (x :: out).reverse by simp]
            refine ev_neg hI (ev_pos (by omega) (ev_pos (by omega) (ev_pos (by simp; omega) (ev_pos (by omega) ?_))))
            refine ev_eq (ih _ rem done st (x :: out) (snoc_mid e) el ?_ ?_ ?_ ?_) ?_
            · rw [show ((st.length : Nat) : Int) = ((st.length + 1 : Nat) : Int) - 1 by omega]; exact hg
            · omega
            · simp only [List.length_cons]; omega
            · simp only [List.length_cons]; omega
            · simp [runGo]
        · rw [if_neg hd] at hg; cases hg
      · simp only [wGo] at hg
        rw [if_neg hI, if_neg hO] at hg; cases hg
theorem spec_run_ev (l : List Int) (w : ByteArray) (hl : l.length ≤ 7) (hg : wGo (bytesOf w) 0 = true) (hw : w.size = 2 * l.length) : Ev (fun k => spec_l2Run.f k l w) (runL l (bytesOf w)) := by
  unfold spec_l2Run.f
  exact spec_run_l l w hl (by omega) (bytesOf w) [] l [] [] [] rfl rfl (by simpa using hg) (by rw [bytes_len]; simp; omega) (by simp) (by simp)

theorem impl_run_l (w : ByteArray) (hw : w.size ≤ 14) : ∀ (suf pre rem st out : List Int), bytesOf w = pre ++ suf → wGo suf (st.length : Int) = true → suf.length = 2 * rem.length + st.length → out.length + st.length + rem.length ≤ 7 → Ev (fun k => impl_runWord.l0 k rem w st.reverse out.reverse (w.size : Int) (pre.length : Int)) (runGo suf rem st out) := by
  intro suf
  induction suf with
  | nil =>
    intro pre rem st out e hg h2 h3
    have h := size_end e
    refine ev_succ ?_
    simp only [impl_runWord.l0.eq_2]
    exact ev_neg (by omega) (ev_now (by simp [runGo]))
  | cons c suf ih =>
    intro pre rem st out e hg h2 h3
    have h := size_mid e
    simp only [List.length_cons] at h2
    refine ev_succ ?_
    simp only [impl_runWord.l0.eq_2, bt_mid e]
    rw [wrap_snoc (pre := pre) (c := c) (by omega)]
    refine ev_pos (by omega) (ev_pos (by omega) (ev_pos (by omega) ?_))
    by_cases hI : c = 73
    · subst hI
      rw [wGo_in] at hg
      have hlen := wGo_len _ _ (by omega) hg
      cases rem with
      | nil => simp only [List.length_nil] at h2; omega
      | cons x rem =>
        simp only [List.length_cons] at h2 h3
        rw [show rd (x :: rem) 0 = x from rfl, show st.reverse ++ [x] = (x :: st).reverse by simp, show (x :: rem).drop 1 = rem from rfl]
        refine ev_pos rfl (ev_pos (by simp only [List.length_cons]; omega) (ev_pos (by simp; omega) (ev_pos (by simp only [List.length_cons]; omega) ?_)))
        refine ev_eq (ih _ rem (x :: st) out (snoc_mid e) ?_ ?_ ?_) ?_
        · simpa using hg
        · simp only [List.length_cons]; omega
        · simp only [List.length_cons]; omega
        · simp [runGo]
    · by_cases hO : c = 79
      · subst hO
        rw [wGo_out] at hg
        by_cases hd : (st.length : Int) > 0
        · rw [if_pos hd] at hg
          cases st with
          | nil => simp at hd
          | cons x st =>
            simp only [List.length_cons] at hg h2 h3
            have hlen : ((x :: st).reverse.length : Int) = st.length + 1 := by simp
            rw [wrap_of (x := ((x :: st).reverse.length : Int) - 1) (by omega) (by omega), top_rev, pop_rev, show out.reverse ++ [x] = (x :: out).reverse by simp]
            refine ev_neg hI (ev_pos (by omega) (ev_pos (by omega) (ev_pos (by simp; omega) (ev_pos (by omega) ?_))))
            refine ev_eq (ih _ rem st (x :: out) (snoc_mid e) ?_ ?_ ?_) ?_
            · rw [show ((st.length : Nat) : Int) = ((st.length + 1 : Nat) : Int) - 1 by omega]; exact hg
            · omega
            · simp only [List.length_cons]; omega
            · simp [runGo]
        · rw [if_neg hd] at hg; cases hg
      · simp only [wGo] at hg
        rw [if_neg hI, if_neg hO] at hg; cases hg
theorem impl_run_ev (l : List Int) (w : ByteArray) (hl : l.length ≤ 7) (hg : wGo (bytesOf w) 0 = true) (hw : w.size = 2 * l.length) : Ev (fun k => impl_runWord.f k l w) (runL l (bytesOf w)) := by
  unfold impl_runWord.f
  exact impl_run_l w (by omega) (bytesOf w) [] l [] [] rfl (by simpa using hg) (by rw [bytes_len]; simp; omega) (by simp; omega)

/-! ### the word of the sweep -/
theorem popG_sum (b : Int) : ∀ (st out : List Int), (impl_sweepWord.popG b st out).1.length + (impl_sweepWord.popG b st out).2.length = st.length + out.length := by
  intro st
  induction st with
  | nil => intro out; simp [impl_sweepWord.popG]
  | cons x s ih =>
    intro out
    simp only [impl_sweepWord.popG]
    split
    · rw [ih]; simp; omega
    · rfl
theorem popG_less (b : Int) : ∀ (st out : List Int), (impl_sweepWord.popG b st out).1.length ≤ st.length := by
  intro st
  induction st with
  | nil => intro out; simp [impl_sweepWord.popG]
  | cons x s ih =>
    intro out
    simp only [impl_sweepWord.popG]
    split
    · exact Nat.le_trans (ih _) (by simp)
    · exact Nat.le_refl _
theorem popG_mem (b : Int) : ∀ (st out : List Int), ∀ y ∈ (impl_sweepWord.popG b st out).1, y ∈ st := by
  intro st
  induction st with
  | nil => intro out y h; simp [impl_sweepWord.popG] at h
  | cons x s ih =>
    intro out y
    simp only [impl_sweepWord.popG]
    split
    · intro h; exact List.mem_cons_of_mem _ (ih _ y h)
    · exact fun h => h
theorem pop8 : ∀ (st out : List Int), (∀ x ∈ st, x < 8) → impl_sweepWord.popG 8 st out = ([], out ++ List.replicate st.length 79) := by
  intro st
  induction st with
  | nil => intro out _; simp [impl_sweepWord.popG]
  | cons x s ih =>
    intro out h
    rw [impl_sweepWord.popG, if_pos (h x (by simp)), ih _ (fun y hy => h y (by simp [hy]))]
    simp [List.replicate_succ]
theorem ord_small {l : List Int} (h : isOrd l = true) : ∀ x ∈ l, x < 8 := fun x hx => by
  have := ord_range h x hx; have := (ord_len h).2; omega
theorem impl_sweepword_ev (l : List Int) (h : isOrd l = true) : Ev (fun _ => impl_sweepWord.f l) (strOfNums (impl_sweepWord.goG l [] [])) := by
  unfold impl_sweepWord.f
  have := (ord_len h).2
  exact ev_pos (by omega) (ev_now rfl)

theorem spec_sw_2 : ∀ (j : Nat) (st out : List Int) (i : Nat), st.length = i + j → out.length + j ≤ 100 → st.length ≤ 100 → Ev (fun k => spec_l4SweepWord.l2 k (strOfNums out) st.reverse (i : Int)) (strOfNums (out ++ List.replicate j 79)) := by
  intro j
  induction j with
  | zero =>
    intro st out i h ho hs
    refine ev_succ ?_
    simp only [spec_l4SweepWord.l2.eq_2]
    exact ev_neg (by simp; omega) (ev_now (by simp))
  | succ j ih =>
    intro st out i h ho hs
    have hsz : (strOfNums out).size = out.length := str_size out
    refine ev_succ ?_
    simp only [spec_l4SweepWord.l2.eq_2, str_snocO]
    rw [wrap_of (by omega) (by omega), show (i : Int) + 1 = ((i + 1 : Nat) : Int) by omega]
    refine ev_pos (by simp; omega) (ev_pos (by omega) (ev_eq (ih st (out ++ [79]) (i + 1) (by omega) (by simp; omega) hs) ?_))
    simp [List.replicate_succ]
theorem spec_sw_1 (l : List Int) (n : Int) (i : Nat) (hi : i < l.length) (hl : l.length ≤ 7) (hn : rd l (i : Int) = n) (R : ByteArray) : ∀ (st out : List Int), st.length + out.length ≤ 100 →
    Ev (fun k => spec_l4SweepWord.l0 k l (strOfNums ((impl_sweepWord.popG n st out).2 ++ [73])) (n :: (impl_sweepWord.popG n st out).1).reverse (wrap64 ((i : Int) + 1))) R →
    Ev (fun k => spec_l4SweepWord.l1 k l (strOfNums out) st.reverse (i : Int)) R := by
  intro st
  induction st with
  | nil =>
    intro out h hR
    have hsz : (strOfNums out).size = out.length := str_size out
    refine ev_succ ?_
    simp only [spec_l4SweepWord.l1.eq_2, hn, str_snocI]
    refine ev_neg (by simp) (ev_pos (by omega) (ev_pos (by omega) (ev_pos (by simp) (ev_pos (by simp at h; omega) ?_))))
    simpa [impl_sweepWord.popG] using hR
  | cons x s ih =>
    intro out h hR
    simp only [List.length_cons] at h
    have hsz : (strOfNums out).size = out.length := str_size out
    have hl2 : ((x :: s).reverse.length : Int) = (s.length : Int) + 1 := by simp
    refine ev_succ ?_
    simp only [spec_l4SweepWord.l1.eq_2, hn, str_snocI, str_snocO]
    rw [wrap_of (x := ((x :: s).reverse.length : Int) - 1) (by omega) (by omega), top_rev, pop_rev]
    refine ev_pos (by omega) (ev_pos (by omega) (ev_pos (by omega) (ev_pos (by omega) (ev_pos (by omega) ?_))))
    by_cases hx : x < n
    · rw [impl_sweepWord.popG, if_pos hx] at hR
      exact ev_pos hx (ev_pos (by omega) (ev_pos (by omega) (ih (out ++ [79]) (by simp; omega) hR)))
    · rw [impl_sweepWord.popG, if_neg hx] at hR
      exact ev_neg hx (ev_pos (by simp; omega) (ev_pos (by omega) (by simpa using hR)))
theorem spec_sw_0 (l : List Int) (hl : l.length ≤ 7) (h8 : ∀ x ∈ l, x < 8) : ∀ (suf pre st out : List Int), l = pre ++ suf → (∀ x ∈ st, x < 8) → st.length ≤ pre.length → st.length + out.length = 2 * pre.length →
    Ev (fun k => spec_l4SweepWord.l0 k l (strOfNums out) st.reverse (pre.length : Int)) (strOfNums (impl_sweepWord.goG suf st out)) := by
  intro suf
  induction suf with
  | nil =>
    intro pre st out e hs h1 h2
    have h := len_end e
    refine ev_succ ?_
    simp only [spec_l4SweepWord.l0.eq_2]
    refine ev_neg (by omega) (ev_eq (spec_sw_2 st.length st out 0 (by omega) (by omega) (by omega)) ?_)
    rw [impl_sweepWord.goG, pop8 _ _ hs]
  | cons c suf ih =>
    intro pre st out e hs h1 h2
    have h := len_mid e
    have hp1 := popG_sum c st out
    have hp2 := popG_less c st out
    refine ev_succ ?_
    simp only [spec_l4SweepWord.l0.eq_2]
    refine ev_pos (by omega) (spec_sw_1 l c pre.length (by omega) hl (rd_mid' e) _ st out (by omega) ?_)
    rw [wrap_snoc (pre := pre) (c := c) (by omega)]
    refine ev_eq (ih _ _ _ (snoc_mid e) ?_ (by simp; omega) (by simp; omega)) (by rw [impl_sweepWord.goG])
    intro x hx
    rcases List.mem_cons.1 hx with hx | hx
    · rw [hx]; exact h8 c (by rw [e]; simp)
    · exact hs x (popG_mem c st out x hx)
theorem spec_sweepword_ev (l : List Int) (h : isOrd l = true) : Ev (fun k => spec_l4SweepWord.f k l) (strOfNums (impl_sweepWord.goG l [] [])) := by
  unfold spec_l4SweepWord.f
  have := spec_sw_0 l (ord_len h).2 (ord_small h) l [] [] [] rfl (by simp) (by simp) (by simp)
  simpa [str_nil] using this

/-! ### the sweep's word is a word -/
theorem popG_form (n : Int) : ∀ (st out : List Int), ∃ (j : Nat) (s : List Int), impl_sweepWord.popG n st out = (s, out ++ List.replicate j 79) ∧ st.length = j + s.length ∧ (∀ y ∈ s, y ∈ st) := by
  intro st
  induction st with
  | nil => intro out; exact ⟨0, [], by simp [impl_sweepWord.popG], rfl, fun _ h => h⟩
  | cons x s ih =>
    intro out
    by_cases hx : x < n
    · obtain ⟨j, s', h1, h2, h3⟩ := ih (out ++ [79])
      refine ⟨j + 1, s', ?_, by simp; omega, fun y hy => List.mem_cons_of_mem _ (h3 y hy)⟩
      rw [impl_sweepWord.popG, if_pos hx, h1]
      simp [List.replicate_succ]
    · exact ⟨0, x :: s, by rw [impl_sweepWord.popG, if_neg hx]; simp, by simp, fun _ h => h⟩
theorem wGo_rep : ∀ (j : Nat) (r : List Int) (d : Nat), j ≤ d → wGo (List.replicate j 79 ++ r) (d : Int) = wGo r ((d - j : Nat) : Int) := by
  intro j
  induction j with
  | zero => intro r d h; simp
  | succ j ih =>
    intro r d h
    rw [List.replicate_succ, List.cons_append, wGo_out, if_pos (by omega), show (d : Int) - 1 = ((d - 1 : Nat) : Int) by omega, ih r (d - 1) (by omega)]
    congr 2
    omega
theorem goG_word : ∀ (suf st out : List Int), (∀ x ∈ st, x < 8) → (∀ x ∈ suf, x < 8) → ∃ r, impl_sweepWord.goG suf st out = out ++ r ∧ wGo r (st.length : Int) = true ∧ r.length = 2 * suf.length + st.length ∧ (∀ c ∈ r, c = 73 ∨ c = 79) := by
  intro suf
  induction suf with
  | nil =>
    intro st out hs _
    refine ⟨List.replicate st.length 79, by rw [impl_sweepWord.goG, pop8 _ _ hs], ?_, by simp, fun c hc => .inr (List.eq_of_mem_replicate hc)⟩
    have := wGo_rep st.length [] st.length (Nat.le_refl _)
    rw [List.append_nil] at this
    rw [this]
    simp [wGo]
  | cons n t ih =>
    intro st out hs ht
    obtain ⟨j, s, h1, h2, h3⟩ := popG_form n st out
    obtain ⟨r, g1, g2, g3, g4⟩ := ih (n :: s) (out ++ List.replicate j 79 ++ [73]) (by
      intro x hx
      rcases List.mem_cons.1 hx with hx | hx
      · rw [hx]; exact ht n (by simp)
      · exact hs x (h3 x hx)) (fun x hx => ht x (by simp [hx]))
    refine ⟨List.replicate j 79 ++ 73 :: r, ?_, ?_, ?_, ?_⟩
    · rw [impl_sweepWord.goG, h1, g1]; simp
    · rw [wGo_rep j _ st.length (by omega), wGo_in]
      have e : ((st.length - j : Nat) : Int) + 1 = ((n :: s).length : Int) := by simp; omega
      rw [e]; exact g2
    · simp at g3 ⊢; omega
    · intro c hc
      rcases List.mem_append.1 hc with hc | hc
      · exact .inr (List.eq_of_mem_replicate hc)
      · rcases List.mem_cons.1 hc with hc | hc
        · exact .inl hc
        · exact g4 c hc
def swW (l : List Int) : ByteArray := strOfNums (impl_sweepWord.goG l [] [])
theorem swW_ok {l : List Int} (h : isOrd l = true) : bytesOf (swW l) = impl_sweepWord.goG l [] [] ∧ wGo (bytesOf (swW l)) 0 = true ∧ (swW l).size = 2 * l.length := by
  obtain ⟨r, g1, g2, g3, g4⟩ := goG_word l [] [] (by simp) (ord_small h)
  rw [List.nil_append] at g1
  have hb : bytesOf (swW l) = impl_sweepWord.goG l [] [] := by
    unfold swW
    refine bytes_str (fun x hx => ?_)
    rw [g1] at hx
    rcases g4 x hx with h | h <;> omega
  refine ⟨hb, ?_, ?_⟩
  · rw [hb, g1]; exact g2
  · unfold swW; rw [str_size, g1, g3]; simp
def sweepL (l : List Int) : List Int := runL l (bytesOf (swW l))
theorem sweepL_length {l : List Int} (h : isOrd l = true) : (sweepL l).length ≤ 14 := by
  obtain ⟨h1, h2, h3⟩ := swW_ok h
  have := runGo_length (bytesOf (swW l)) l [] []
  rw [bytes_len, h3] at this
  have h7 := (ord_len h).2
  unfold sweepL runL; simp at this; omega

theorem impl_sweep_ev (l : List Int) (h : isOrd l = true) : Ev (fun k => impl_sweep.f k l) (sweepL l) := by
  unfold impl_sweep.f
  obtain ⟨h1, h2, h3⟩ := swW_ok h
  exact ev_bind (impl_sweepword_ev l h) (ev_bind (impl_run_ev l (swW l) (ord_len h).2 h2 h3) (ev_now rfl))

theorem spec_sweep_ev (l : List Int) (h : isOrd l = true) : Ev (fun k => spec_l4Sweep.f k l) (sweepL l) := by
  unfold spec_l4Sweep.f
  obtain ⟨h1, h2, h3⟩ := swW_ok h
  exact ev_bind (spec_sweepword_ev l h) (ev_bind (spec_run_ev l (swW l) (ord_len h).2 h2 h3) (ev_now rfl))

/-! ### slices.IsSorted -/
theorem less_ev (a b : Int) : Ev (fun _ => cmp_Less_int.f a b) (decide (a < b)) := ev_const (by simp [cmp_Less_int.f, cmp_isNaN_int.f])
theorem sorted_l (l : List Int) (hl : l.length ≤ 1000) : ∀ (p suf : List Int), l = p.reverse ++ suf → p ≠ [] → Ev (fun k => slices_IsSorted_int_int.l0 k l ((p.length : Int) - 1)) (srtR p) := by
  intro p
  induction p with
  | nil => intro suf e hp; exact absurd rfl hp
  | cons a p ih =>
    intro suf e _
    have hll : l.length = p.length + 1 + suf.length := by rw [e]; simp; omega
    have em : l = p.reverse ++ a :: suf := by rw [e]; simp
    have ra : rd l (p.length : Int) = a := by have := rd_mid' em; simpa using this
    have e1 : (((a :: p).length : Nat) : Int) - 1 = (p.length : Int) := by simp
    rw [e1]
    refine ev_succ ?_
    simp only [slices_IsSorted_int_int.l0.eq_2, ra]
    cases p with
    | nil => exact ev_neg (by simp) (ev_now (by simp [srtR]))
    | cons b t =>
      have em2 : l = t.reverse ++ b :: (a :: suf) := by rw [em]; simp
      have rb : rd l (t.length : Int) = b := by have := rd_mid' em2; simpa using this
      rw [wrap_of (by omega) (by omega), show (((b :: t).length : Nat) : Int) - 1 = (t.length : Int) by simp, rb]
      have hlb : ((b :: t).length : Int) = (t.length : Int) + 1 := by simp
      refine ev_pos (by omega) (ev_pos (by omega) (ev_pos (by omega) (ev_pos (by omega) (ev_pos (by omega) (ev_bind (less_ev a b) ?_)))))
      by_cases h : a < b
      · exact ev_pos (by simpa using h) (ev_now (by simp [srtR, h]))
      · refine ev_neg (by simpa using h) (ev_eq ?_ (show srtR (b :: t) = srtR (a :: b :: t) by simp [srtR, h]))
        have := ih (a :: suf) em (by simp)
        rwa [show (((b :: t).length : Nat) : Int) - 1 = (t.length : Int) by simp] at this
theorem isSorted_ev (l : List Int) (hl : l.length ≤ 1000) : Ev (fun k => impl_isSorted.f k l) (srtR l.reverse) := by
  unfold impl_isSorted.f slices_IsSorted_int_int.f
  rw [wrap_of (by omega) (by omega)]
  refine ev_bind (a := srtR l.reverse) ?_ (ev_now rfl)
  cases hl2 : l.reverse with
  | nil =>
    have : l = [] := by simpa using hl2
    subst this
    refine ev_succ ?_
    simp only [slices_IsSorted_int_int.l0.eq_2]
    exact ev_neg (by simp) (ev_now (by simp [srtR]))
  | cons a t =>
    have e : l = (a :: t).reverse ++ [] := by rw [← hl2]; simp
    have := sorted_l l hl (a :: t) [] e (by simp)
    rwa [show ((a :: t).length : Int) = (l.length : Int) by rw [← hl2]; simp] at this

theorem spec_sorted_tab : ∀ i : Fin 8, spec_l2Sorted.f 20 ((i.val : Nat) : Int) = some (iota 1 i.val) := by decide +kernel
theorem spec_sorted_ev (n : Nat) (h : n ≤ 7) : Ev (fun k => spec_l2Sorted.f k (n : Int)) (iota 1 n) := Ev.of (fun k => spec_l2Sorted.mono _ k) (spec_sorted_tab ⟨n, by omega⟩)

theorem own_ev (l : List Int) (h : l.length ≤ 1000000) : Ev (fun _ => spec_l1Own.f l) l := by
  unfold spec_l1Own.f
  exact ev_let (ev_pos (by simp; omega) (ev_now (by simp)))

def swp (l : List Int) : List Int := runGo (impl_sweepWord.goG l [] []) l [] []
def cntGo : Nat → List Int → Option Nat
  | 0, _ => none
  | f + 1, l => if srtR l.reverse = true then some 0 else (cntGo f (swp l)).map (fun n => n + 1)
def okS (l s : List Int) : Bool := isOrd s && (decide (l = iota 1 l.length) == srtR l.reverse) && s.length == l.length && (srtR l.reverse || decide (invC s < invC l))
def okB (l : List Int) : Bool := okS l (swp l)
theorem ok1 : (ordsN 1).all okB = true := by decide +kernel
theorem ok2 : (ordsN 2).all okB = true := by decide +kernel
theorem ok3 : (ordsN 3).all okB = true := by decide +kernel
theorem ok4 : (ordsN 4).all okB = true := by decide +kernel
theorem ok5 : (ordsN 5).all okB = true := by decide +kernel
theorem ok6 : (ordsN 6).all okB = true := by decide +kernel
theorem ok7_1 : ((permsN 6 [2, 3, 4, 5, 6, 7]).map (fun s => (1 : Int) :: s)).all okB = true := by decide +kernel
theorem ok7_2 : ((permsN 6 [1, 3, 4, 5, 6, 7]).map (fun s => (2 : Int) :: s)).all okB = true := by decide +kernel
theorem ok7_3 : ((permsN 6 [1, 2, 4, 5, 6, 7]).map (fun s => (3 : Int) :: s)).all okB = true := by decide +kernel
theorem ok7_4 : ((permsN 6 [1, 2, 3, 5, 6, 7]).map (fun s => (4 : Int) :: s)).all okB = true := by decide +kernel
theorem ok7_5 : ((permsN 6 [1, 2, 3, 4, 6, 7]).map (fun s => (5 : Int) :: s)).all okB = true := by decide +kernel
theorem ok7_6 : ((permsN 6 [1, 2, 3, 4, 5, 7]).map (fun s => (6 : Int) :: s)).all okB = true := by decide +kernel
theorem ok7_7 : ((permsN 6 [1, 2, 3, 4, 5, 6]).map (fun s => (7 : Int) :: s)).all okB = true := by decide +kernel
theorem ok7 : (ordsN 7).all okB = true := ord7_all okB ok7_1 ok7_2 ok7_3 ok7_4 ok7_5 ok7_6 ok7_7
theorem ok0 {l : List Int} (h : isOrd l = true) : isOrd (swp l) = true ∧ decide (l = iota 1 l.length) = srtR l.reverse ∧ (swp l).length = l.length ∧ (srtR l.reverse = true ∨ invC (swp l) < invC l) := by
  have := ord_all okB ok1 ok2 ok3 ok4 ok5 ok6 ok7 h
  unfold okB okS at this
  rw [Bool.and_eq_true, Bool.and_eq_true, Bool.and_eq_true, Bool.or_eq_true, beq_iff_eq, beq_iff_eq, decide_eq_true_eq] at this
  exact ⟨this.1.1.1, this.1.1.2, this.1.2, this.2⟩
theorem cnt_some : ∀ (f : Nat) (l : List Int), isOrd l = true → invC l < f → ∃ c, cntGo f l = some c := by
  intro f
  induction f with
  | zero => intro l _ h; omega
  | succ f ih =>
    intro l ho h
    obtain ⟨o1, _, _, o4⟩ := ok0 ho
    rw [cntGo]
    by_cases hs : srtR l.reverse = true
    · exact ⟨0, by rw [if_pos hs]⟩
    · rcases o4 with o4 | o4
      · exact absurd o4 hs
      · obtain ⟨c, hc⟩ := ih (swp l) o1 (by omega)
        exact ⟨c + 1, by rw [if_neg hs, hc]; rfl⟩
theorem ok {l : List Int} (h : isOrd l = true) : isOrd (sweepL l) = true ∧ decide (l = iota 1 l.length) = srtR l.reverse ∧ (sweepL l).length = l.length ∧ ∃ c, cntGo 60 l = some c := by
  have e : sweepL l = swp l := by
    unfold sweepL runL
    rw [(swW_ok h).1]; rfl
  obtain ⟨o1, o2, o3, _⟩ := ok0 h
  rw [e]
  refine ⟨o1, o2, o3, cnt_some 60 l h ?_⟩
  have h1 := invC_le l
  have h7 := (ord_len h).2
  have : l.length * l.length ≤ 7 * 7 := Nat.mul_le_mul h7 h7
  omega
theorem swp_eq {l : List Int} (h : isOrd l = true) : sweepL l = swp l := by
  unfold sweepL runL
  rw [(swW_ok h).1]; rfl
def cntR (l : List Int) : Int × Bool := onOrd l 0 (((cntGo 60 l).getD 0 : Nat) : Int)
theorem impl_l : ∀ (f : Nat) (l : List Int) (acc c : Nat), isOrd l = true → cntGo f l = some c → acc + f ≤ 100 → Ev (fun k => impl_CountSweeps.l0 k (acc : Int) l) (((acc + c : Nat) : Int), true) := by
  intro f
  induction f with
  | zero => intro l acc c _ h; cases h
  | succ f ih =>
    intro l acc c ho hc ha
    have h7 := (ord_len ho).2
    refine ev_succ ?_
    simp only [impl_CountSweeps.l0.eq_2]
    refine ev_bind (isSorted_ev l (by omega)) ?_
    rw [cntGo] at hc
    by_cases hs : srtR l.reverse = true
    · rw [if_pos hs] at hc
      obtain rfl := Option.some.inj hc
      exact ev_pos hs (ev_now rfl)
    · rw [if_neg hs] at hc
      obtain ⟨c', hc', rfl⟩ := Option.map_eq_some_iff.1 hc
      refine ev_neg hs (ev_bind (impl_sweep_ev l ho) ?_)
      rw [wrap_of (by omega) (by omega), show (acc : Int) + 1 = ((acc + 1 : Nat) : Int) by omega, swp_eq ho]
      refine ev_eq (ih (swp l) (acc + 1) c' (by have := (ok ho).1; rwa [swp_eq ho] at this) hc' (by omega)) ?_
      rw [show acc + 1 + c' = acc + (c' + 1) by omega]
theorem spec_l (x : List Int) : ∀ (f : Nat) (l : List Int) (acc c : Nat), x.length = l.length → isOrd l = true → cntGo f l = some c → acc + f ≤ 100 → Ev (fun k => spec_CountSweeps.l0 k x (acc : Int) l) (((acc + c : Nat) : Int), true) := by
  intro f
  induction f with
  | zero => intro l acc c _ _ h; cases h
  | succ f ih =>
    intro l acc c hx ho hc ha
    have h7 := (ord_len ho).2
    obtain ⟨o1, o2, o3, o4⟩ := ok ho
    refine ev_succ ?_
    simp only [spec_CountSweeps.l0.eq_2]
    refine ev_bind (spec_sorted_ev x.length (by omega)) (ev_bind (same_ev l _ (by omega)) ?_)
    rw [cntGo] at hc
    rw [hx, o2]
    by_cases hs : srtR l.reverse = true
    · rw [if_pos hs] at hc
      obtain rfl := Option.some.inj hc
      exact ev_pos hs (ev_now rfl)
    · rw [if_neg hs] at hc
      obtain ⟨c', hc', rfl⟩ := Option.map_eq_some_iff.1 hc
      refine ev_neg hs (ev_bind (spec_sweep_ev l ho) ?_)
      rw [wrap_of (by omega) (by omega), show (acc : Int) + 1 = ((acc + 1 : Nat) : Int) by omega]
      rw [swp_eq ho] at o1 o3 ⊢
      refine ev_eq (ih (swp l) (acc + 1) c' (by omega) o1 hc' (by omega)) ?_
      rw [show acc + 1 + c' = acc + (c' + 1) by omega]
theorem spec_ev (a : List Int) (ha : a.length ≤ 140737488351232) : Ev (fun k => spec_CountSweeps.f k a) (cntR a) := by
  unfold spec_CountSweeps.f cntR
  by_cases h1 : isOrd a = true
  · rw [onOrd_pos h1]
    obtain ⟨o1, o2, o3, c, hc⟩ := ok h1
    refine ev_bind (spec_order_ev a ha) (ev_pos h1 (ev_bind (own_ev a (by have := (ord_len h1).2; omega)) ?_))
    have := spec_l a 60 a 0 c rfl h1 hc (by omega)
    rw [hc]; simpa using this
  · rw [onOrd_neg h1]; exact ev_bind (spec_order_ev a ha) (ev_neg h1 (ev_now rfl))
theorem impl_ev (a : List Int) (ha : a.length ≤ 140737488351232) : Ev (fun k => impl_CountSweeps.f k a) (cntR a) := by
  unfold impl_CountSweeps.f cntR
  by_cases h1 : isOrd a = true
  · rw [onOrd_pos h1]
    obtain ⟨o1, o2, o3, c, hc⟩ := ok h1
    refine ev_bind (impl_order_ev a ha) (ev_pos h1 ?_)
    have := impl_l 60 a 0 c h1 hc (by omega)
    rw [hc]; simpa using this
  · rw [onOrd_neg h1]; exact ev_bind (impl_order_ev a ha) (ev_neg h1 (ev_now rfl))
theorem FnExactCountSweeps : laws_FnExactCountSweeps.Pure := by
  intro l hm hl hw
  apply Ev.rounds (r := true)
  have hs := spec_ev l (len_max hl)
  have hi := impl_ev l (len_max hl)
  unfold laws_FnExactCountSweeps.f
  by_cases h1 : (l.length : Int) > 1048576
  · exact ev_pos h1 (ev_now rfl)
  refine ev_neg h1 (ev_bind (toInt_ev l hl) (ev_bind hs (ev_bind (toInt_ev l hl) (ev_bind hi (ev_pos rfl ?_)))))
  refine ev_succ ?_
  simp only [laws_FnExactCountSweeps.j0.eq_2]
  exact ev_neg (by simp) (ev_bind (toInt_ev l hl) (ev_bind (eqInt_ev l l hl) (ev_pos (by simp) (ev_now rfl))))
end Go.Proofs.Ytdiecblalplalaa.Pure
