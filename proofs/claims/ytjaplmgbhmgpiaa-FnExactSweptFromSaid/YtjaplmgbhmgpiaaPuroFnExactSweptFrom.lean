/- The pure statement of FnExactSweptFrom: program and reference tell the same orders. No condition. -/
import Derived.Test.YtjaplmgbhmgpiaaMFnExactSweptFromx8
import Derived.Test.YtjaplmgbhmgpiaaBase
import Derived.Test.YtjaplmgbhmgpiaaBaseP
import Derived.Test.YtjaplmgbhmgpiaaBaseW
import Derived.Test.YtjaplmgbhmgpiaaBaseR
import Derived.Test.YtjaplmgbhmgpiaaBaseO
import Derived.Test.YtjaplmgbhmgpiaaBaseA
import Derived.Test.YtjaplmgbhmgpiaaBaseF
import Derived.Test.YtjaplmgbhmgpiaaBaseD
namespace Go.Proofs.Ytjaplmgbhmgpiaa.Pure
open Go Go.RowKit Go.Proofs.Ytjaplmgbhmgpiaa.MFnExactSweptFrom Go.Proofs.YtjaplmgbhmgpiaaW.PrintWords Go.Proofs.Ytjaplmgbhmgpiaa.Base
set_option linter.unusedVariables false
set_option linter.unusedSimpArgs false
/-! ### Is it an order? -/
theorem in_ev (a b c : Int) : Ev (fun _ => spec_l1In.f a b c) (decide (b ≤ a) && decide (a ≤ c)) := by
  unfold spec_l1In.f
  by_cases h : a ≥ b
  · refine ev_pos h (ev_now ?_)
    have : decide (b ≤ a) = true := decide_eq_true h
    rw [this]; rfl
  · refine ev_neg h (ev_now ?_)
    have : decide (b ≤ a) = false := decide_eq_false (by omega)
    rw [this]; rfl

theorem has_l (l : List Int) (x : Int) (hl : l.length ≤ 140737488351232) : ∀ (suf pre : List Int), l = pre ++ suf → Ev (fun k => spec_l1Has.l0 k l x (pre.length : Int)) (decide (x ∈ suf)) := by
  intro suf
  induction suf with
  | nil =>
    intro pre e
    have h := len_end e
    refine ev_succ ?_
    simp only [spec_l1Has.l0.eq_2]
    refine ev_neg (by omega) ?_
    exact ev_now (by simp)
  | cons c suf ih =>
    intro pre e
    have h := len_mid e
    refine ev_succ ?_
    simp only [spec_l1Has.l0.eq_2, rd_mid' e]
    refine ev_pos (by omega) (ev_pos (by omega) ?_)
    by_cases hc : c = x
    · exact ev_pos hc (ev_now (by simp [hc]))
    · refine ev_neg hc ?_
      rw [wrap_snoc (pre := pre) (c := c) (by omega)]
      refine ev_eq (ih _ (snoc_mid e)) ?_
      have : x ≠ c := fun h => hc h.symm
      simp [this]
theorem has_ev (l : List Int) (x : Int) (hl : l.length ≤ 140737488351232) : Ev (fun k => spec_l1Has.f k l x) (decide (x ∈ l)) := by
  unfold spec_l1Has.f
  exact has_l l x hl l [] rfl
theorem idx_l (l : List Int) (x : Int) (hl : l.length ≤ 140737488351232) : ∀ (suf pre : List Int), l = pre ++ suf → Ev (fun k => slices_Index_int_int.l0 k l x (l.length : Int) (pre.length : Int)) (if x ∈ suf then ((pre.length + suf.idxOf x : Nat) : Int) else -1) := by
  intro suf
  induction suf with
  | nil =>
    intro pre e
    have h := len_end e
    refine ev_succ ?_
    simp only [slices_Index_int_int.l0.eq_2]
    refine ev_neg (by omega) ?_
    exact ev_now (by simp)
  | cons c suf ih =>
    intro pre e
    have h := len_mid e
    refine ev_succ ?_
    simp only [slices_Index_int_int.l0.eq_2, rd_mid' e]
    refine ev_pos (by omega) (ev_pos (by omega) (ev_pos (by omega) ?_))
    by_cases hc : x = c
    · exact ev_pos hc (ev_now (by simp [hc]))
    · refine ev_neg hc ?_
      rw [wrap_snoc (pre := pre) (c := c) (by omega)]
      refine ev_eq (ih _ (snoc_mid e)) ?_
      have hc' : ¬ c = x := fun h => hc h.symm
      have hb : (c == x) = false := by simpa using hc'
      simp only [List.mem_cons, hc, false_or, List.idxOf_cons, hb, cond_false]
      by_cases hm : x ∈ suf
      · rw [if_pos hm, if_pos hm]; simp; omega
      · rw [if_neg hm, if_neg hm]
theorem idx_ev (l : List Int) (x : Int) (hl : l.length ≤ 140737488351232) : Ev (fun k => slices_Index_int_int.f k l x) (if x ∈ l then ((l.idxOf x : Nat) : Int) else -1) := by
  unfold slices_Index_int_int.f
  simpa using idx_l l x hl l [] rfl
theorem contains_ev (l : List Int) (x : Int) (hl : l.length ≤ 140737488351232) : Ev (fun k => slices_Contains_int_int.f k l x) (decide (x ∈ l)) := by
  unfold slices_Contains_int_int.f
  refine ev_bind (idx_ev l x hl) (ev_now ?_)
  by_cases h : x ∈ l
  · simp [h]
  · simp [h]


theorem spec_order_l (l : List Int) (hl : l.length ≤ 140737488351232) : ∀ (suf pre : List Int), l = pre ++ suf → Ev (fun k => spec_l2Order.l0 k l (pre.length : Int)) (ordGo (l.length : Int) pre suf) := by
  intro suf
  induction suf with
  | nil =>
    intro pre e
    have h := len_end e
    refine ev_succ ?_
    simp only [spec_l2Order.l0.eq_2]
    refine ev_neg (by omega) ?_
    exact ev_now rfl
  | cons c suf ih =>
    intro pre e
    have h := len_mid e
    refine ev_succ ?_
    simp only [spec_l2Order.l0.eq_2, rd_mid' e, take_mid e]
    refine ev_pos (by omega) (ev_pos (by omega) (ev_bind (in_ev _ _ _) ?_))
    by_cases hr : 1 ≤ c ∧ c ≤ (l.length : Int)
    · refine ev_pos (by simp [hr.1, hr.2]) (ev_pos (by omega) (ev_bind (has_ev pre c (by omega)) ?_))
      by_cases hc : c ∈ pre
      · exact ev_pos (by simp [hc]) (ev_now (by simp [ordGo, hc]))
      · refine ev_neg (by simp [hc]) ?_
        rw [wrap_snoc (pre := pre) (c := c) (by omega)]
        refine ev_eq (ih _ (snoc_mid e)) ?_
        simp [ordGo, hr.1, hr.2, hc]
    · refine ev_neg (by simp; omega) (ev_now ?_)
      simp only [ordGo]
      rw [if_neg (fun h => hr ⟨h.1, h.2.1⟩)]
theorem spec_order_ev (l : List Int) (hl : l.length ≤ 140737488351232) : Ev (fun k => spec_l2Order.f k l) (isOrd l) := by
  unfold spec_l2Order.f
  refine ev_bind (in_ev _ _ _) ?_
  unfold isOrd
  by_cases h : 1 ≤ l.length ∧ l.length ≤ 7
  · refine ev_pos (by simp; omega) ?_
    rw [if_pos h]
    exact spec_order_l l hl l [] rfl
  · refine ev_neg (by simp; omega) (ev_now ?_)
    rw [if_neg h]
theorem impl_order_l (l : List Int) (hl : l.length ≤ 140737488351232) : ∀ (suf pre : List Int), l = pre ++ suf → Ev (fun k => impl_isOrder.l0 k l l (l.length : Int) (pre.length : Int)) (ordGo (l.length : Int) pre suf) := by
  intro suf
  induction suf with
  | nil =>
    intro pre e
    have h := len_end e
    refine ev_succ ?_
    simp only [impl_isOrder.l0.eq_2]
    refine ev_neg (by omega) ?_
    exact ev_now rfl
  | cons c suf ih =>
    intro pre e
    have h := len_mid e
    refine ev_succ ?_
    simp only [impl_isOrder.l0.eq_2, rd_mid' e, take_mid e]
    refine ev_pos (by omega) (ev_pos (by omega) (ev_pos (by omega) ?_))
    by_cases h1 : c < 1
    · exact ev_pos h1 (ev_now (by simp only [ordGo]; rw [if_neg (fun h => by omega)]))
    refine ev_neg h1 ?_
    by_cases h2 : c > (l.length : Int)
    · exact ev_pos h2 (ev_now (by simp only [ordGo]; rw [if_neg (fun h => by omega)]))
    refine ev_neg h2 (ev_pos (by omega) (ev_bind (contains_ev pre c (by omega)) ?_))
    by_cases hc : c ∈ pre
    · exact ev_pos (by simp [hc]) (ev_now (by simp [ordGo, hc]))
    · refine ev_neg (by simp [hc]) ?_
      rw [wrap_snoc (pre := pre) (c := c) (by omega)]
      refine ev_eq (ih _ (snoc_mid e)) ?_
      simp only [ordGo]
      rw [if_pos ⟨by omega, by omega, hc⟩]
theorem impl_order_ev (l : List Int) (hl : l.length ≤ 140737488351232) : Ev (fun k => impl_isOrder.f k l) (isOrd l) := by
  have key : ∀ b : Bool, Ev (fun k => impl_isOrder.j0 k l b) (if b = true then false else ordGo (l.length : Int) [] l) := by
    intro b
    refine ev_succ ?_
    simp only [impl_isOrder.j0.eq_2]
    cases b with
    | true => exact ev_pos rfl (ev_now rfl)
    | false => exact ev_neg (by simp) (impl_order_l l hl l [] rfl)
  unfold impl_isOrder.f isOrd
  by_cases h1 : (l.length : Int) < 1
  · refine ev_pos h1 (ev_eq (key true) ?_)
    rw [if_pos rfl, if_neg (fun h => by omega)]
  · refine ev_neg h1 (ev_eq (key _) ?_)
    by_cases h2 : (l.length : Int) > 7
    · rw [if_neg (c := 1 ≤ l.length ∧ l.length ≤ 7) (fun h => by omega), if_pos (decide_eq_true h2)]
    · rw [if_pos (c := 1 ≤ l.length ∧ l.length ≤ 7) ⟨by omega, by omega⟩, if_neg (by simp; omega)]


theorem same_l (a b : List Int) (hl : a.length * 8 ≤ 140737488351232) : ∀ (s t pre q : List Int), a = pre ++ s → b = q ++ t → pre.length = q.length → s.length = t.length → Ev (fun k => spec_l1Same.l0 k a b (pre.length : Int)) (decide (s = t)) := by
  intro s
  induction s with
  | nil =>
    intro t pre q e e' h1 h2
    have h := len_end e
    obtain rfl : t = [] := by cases t with
      | nil => rfl
      | cons _ _ => simp at h2
    refine ev_succ ?_
    simp only [spec_l1Same.l0.eq_2]
    refine ev_neg (by omega) ?_
    exact ev_now (by simp)
  | cons c s ih =>
    intro t pre q e e' h1 h2
    cases t with
    | nil => simp at h2
    | cons d t =>
    have h := len_mid e
    have h' := len_mid e'
    refine ev_succ ?_
    have r1 := rd_mid' e
    have r2 := rd_mid' e'
    rw [← h1] at r2
    simp only [spec_l1Same.l0.eq_2, r1, r2]
    refine ev_pos (by omega) (ev_pos (by omega) (ev_pos (by omega) ?_))
    by_cases hc : c = d
    · refine ev_pos hc ?_
      rw [wrap_snoc (pre := pre) (c := c) (by omega)]
      refine ev_eq (ih t (pre ++ [c]) (q ++ [d]) (snoc_mid e) (snoc_mid e') (by simp [h1]) (by simpa using h2)) ?_
      simp [hc]
    · refine ev_neg hc (ev_now ?_)
      simp [hc]
theorem same_ev (a b : List Int) (hl : a.length * 8 ≤ 140737488351232) : Ev (fun k => spec_l1Same.f k a b) (decide (a = b)) := by
  unfold spec_l1Same.f
  by_cases h : a.length = b.length
  · refine ev_pos (by omega) ?_
    exact same_l a b hl a b [] [] rfl rfl rfl h
  · refine ev_neg (by omega) (ev_now ?_)
    symm
    exact decide_eq_false (fun e => h (by rw [e]))

/-! ### factorials, the sorted order -/
theorem fact_tab : ∀ i : Fin 8, impl_factorial.f 20 ((i.val : Nat) : Int) = some ((fac i.val : Nat) : Int) := by decide +kernel
theorem fact_ev (n : Nat) (h : n ≤ 7) : Ev (fun k => impl_factorial.f k (n : Int)) ((fac n : Nat) : Int) := Ev.of (fun k => impl_factorial.mono _ k) (fact_tab ⟨n, by omega⟩)
theorem ways_tab : ∀ i : Fin 8, spec_l2Ways.f 20 ((i.val : Nat) : Int) = some ((fac i.val : Nat) : Int) := by decide +kernel
theorem ways_ev (n : Nat) (h : n ≤ 7) : Ev (fun k => spec_l2Ways.f k (n : Int)) ((fac n : Nat) : Int) := Ev.of (fun k => spec_l2Ways.mono _ k) (ways_tab ⟨n, by omega⟩)
theorem sorted_tab : ∀ i : Fin 8, impl_sorted.f 20 ((i.val : Nat) : Int) = some (iota 1 i.val) := by decide +kernel
theorem sorted_ev (n : Nat) (h : n ≤ 7) : Ev (fun k => impl_sorted.f k (n : Int)) (iota 1 n) := Ev.of (fun k => impl_sorted.mono _ k) (sorted_tab ⟨n, by omega⟩)
theorem delete_ev (l : List Int) (i : Nat) (h : i < l.length) (hl : l.length ≤ 7) : Ev (fun _ => slices_Delete_int_int.f l (i : Int) (wrap64 ((i : Int) + 1))) (l.eraseIdx i) := by
  unfold slices_Delete_int_int.f
  rw [wrap_of (by omega) (by omega)]
  refine ev_pos (by omega) (ev_pos (by omega) (ev_pos (by omega) (ev_now ?_)))
  rw [← take_drop_erase]
  simp

/-! ### what comes out by a word -/
theorem spec_run_l (l : List Int) (w : ByteArray) (hl : l.length ≤ 7) (hw : w.size ≤ 14) : ∀ (suf pre rem done st out : List Int), bytesOf w = pre ++ suf → l = done ++ rem → wGo suf (st.length : Int) = true → suf.length = 2 * rem.length + st.length → out.length + st.length ≤ 7 → done.length = out.length + st.length → Ev (fun k => spec_l2Run.l0 k l w out.reverse st.reverse (done.length : Int) (pre.length : Int)) (runGo suf rem st out) := by
  intro suf
  induction suf with
  | nil =>
    intro pre rem done st out e el hg h2 h3 h4
    have h := size_end e
    refine ev_succ ?_
    simp only [spec_l2Run.l0.eq_2]
    exact ev_neg (by omega) (ev_now (by simp [runGo]))
  | cons c suf ih =>
    intro pre rem done st out e el hg h2 h3 h4
    have h := size_mid e
    simp only [List.length_cons] at h2
    refine ev_succ ?_
    simp only [spec_l2Run.l0.eq_2, bt_mid e]
    rw [wrap_snoc (pre := pre) (c := c) (by omega)]
    refine ev_pos (by omega) (ev_pos (by omega) ?_)
    by_cases hI : c = 73
    · subst hI
      rw [wGo_in] at hg
      have hlen := wGo_len _ _ (by omega) hg
      cases rem with
      | nil => simp only [List.length_nil] at h2; omega
      | cons x rem =>
        have hd := len_mid el
        simp only [List.length_cons] at h2
        rw [rd_mid' el, wrap_snoc (pre := done) (c := x) (by omega), show st.reverse ++ [x] = (x :: st).reverse by simp]
        refine ev_pos rfl (ev_pos (by omega) (ev_pos (by omega) (ev_pos (by simp; omega) ?_)))
        refine ev_eq (ih _ rem (done ++ [x]) (x :: st) out (snoc_mid e) (snoc_mid el) ?_ ?_ ?_ ?_) ?_
        · simpa using hg
        · simp only [List.length_cons]; omega
        · simp only [List.length_cons]; omega
        · simp; omega
        · simp [runGo]
    · by_cases hO : c = 79
      · subst hO
        rw [wGo_out] at hg
        by_cases hd : (st.length : Int) > 0
        · rw [if_pos hd] at hg
          cases st with
          | nil => simp at hd
          | cons x st =>
            simp only [List.length_cons] at hg h2 h3 h4
            have hlen : ((x :: st).reverse.length : Int) = st.length + 1 := by simp
            rw [wrap_of (x := ((x :: st).reverse.length : Int) - 1) (by omega) (by omega), top_rev, pop_rev, show out.reverse ++ [x] = (x :: out).reverse by simp]
            refine ev_neg hI (ev_pos (by omega) (ev_pos (by omega) (ev_pos (by simp; omega) (ev_pos (by omega) ?_))))
            refine ev_eq (ih _ rem done st (x :: out) (snoc_mid e) el ?_ ?_ ?_ ?_) ?_
            · rw [show ((st.length : Nat) : Int) = ((st.length + 1 : Nat) : Int) - 1 by omega]; exact hg
            · omega
            · simp only [List.length_cons]; omega
            · simp only [List.length_cons]; omega
            · simp [runGo]
        · rw [if_neg hd] at hg; cases hg
      · simp only [wGo] at hg
        rw [if_neg hI, if_neg hO] at hg; cases hg
theorem spec_run_ev (l : List Int) (w : ByteArray) (hl : l.length ≤ 7) (hg : wGo (bytesOf w) 0 = true) (hw : w.size = 2 * l.length) : Ev (fun k => spec_l2Run.f k l w) (runL l (bytesOf w)) := by
  unfold spec_l2Run.f
  exact spec_run_l l w hl (by omega) (bytesOf w) [] l [] [] [] rfl rfl (by simpa using hg) (by rw [bytes_len]; simp; omega) (by simp) (by simp)

theorem impl_run_l (w : ByteArray) (hw : w.size ≤ 14) : ∀ (suf pre rem st out : List Int), bytesOf w = pre ++ suf → wGo suf (st.length : Int) = true → suf.length = 2 * rem.length + st.length → out.length + st.length + rem.length ≤ 7 → Ev (fun k => impl_runWord.l0 k rem w st.reverse out.reverse (w.size : Int) (pre.length : Int)) (runGo suf rem st out) := by
  intro suf
  induction suf with
  | nil =>
    intro pre rem st out e hg h2 h3
    have h := size_end e
    refine ev_succ ?_
    simp only [impl_runWord.l0.eq_2]
    exact ev_neg (by omega) (ev_now (by simp [runGo]))
  | cons c suf ih =>
    intro pre rem st out e hg h2 h3
    have h := size_mid e
    simp only [List.length_cons] at h2
    refine ev_succ ?_
    simp only [impl_runWord.l0.eq_2, bt_mid e]
    rw [wrap_snoc (pre := pre) (c := c) (by omega)]
    refine ev_pos (by omega) (ev_pos (by omega) (ev_pos (by omega) ?_))
    by_cases hI : c = 73
    · subst hI
      rw [wGo_in] at hg
      have hlen := wGo_len _ _ (by omega) hg
      cases rem with
      | nil => simp only [List.length_nil] at h2; omega
      | cons x rem =>
        simp only [List.length_cons] at h2 h3
        rw [show rd (x :: rem) 0 = x from rfl, show st.reverse ++ [x] = (x :: st).reverse by simp, show (x :: rem).drop 1 = rem from rfl]
        refine ev_pos rfl (ev_pos (by simp only [List.length_cons]; omega) (ev_pos (by simp; omega) (ev_pos (by simp only [List.length_cons]; omega) ?_)))
        refine ev_eq (ih _ rem (x :: st) out (snoc_mid e) ?_ ?_ ?_) ?_
        · simpa using hg
        · simp only [List.length_cons]; omega
        · simp only [List.length_cons]; omega
        · simp [runGo]
    · by_cases hO : c = 79
      · subst hO
        rw [wGo_out] at hg
        by_cases hd : (st.length : Int) > 0
        · rw [if_pos hd] at hg
          cases st with
          | nil => simp at hd
          | cons x st =>
            simp only [List.length_cons] at hg h2 h3
            have hlen : ((x :: st).reverse.length : Int) = st.length + 1 := by simp
            rw [wrap_of (x := ((x :: st).reverse.length : Int) - 1) (by omega) (by omega), top_rev, pop_rev, show out.reverse ++ [x] = (x :: out).reverse by simp]
            refine ev_neg hI (ev_pos (by omega) (ev_pos (by omega) (ev_pos (by simp; omega) (ev_pos (by omega) ?_))))
            refine ev_eq (ih _ rem st (x :: out) (snoc_mid e) ?_ ?_ ?_) ?_
            · rw [show ((st.length : Nat) : Int) = ((st.length + 1 : Nat) : Int) - 1 by omega]; exact hg
            · omega
            · simp only [List.length_cons]; omega
            · simp [runGo]
        · rw [if_neg hd] at hg; cases hg
      · simp only [wGo] at hg
        rw [if_neg hI, if_neg hO] at hg; cases hg
theorem impl_run_ev (l : List Int) (w : ByteArray) (hl : l.length ≤ 7) (hg : wGo (bytesOf w) 0 = true) (hw : w.size = 2 * l.length) : Ev (fun k => impl_runWord.f k l w) (runL l (bytesOf w)) := by
  unfold impl_runWord.f
  exact impl_run_l w (by omega) (bytesOf w) [] l [] [] rfl (by simpa using hg) (by rw [bytes_len]; simp; omega) (by simp; omega)

/-! ### the word of the sweep -/
theorem popG_sum (b : Int) : ∀ (st out : List Int), (impl_sweepWord.popG b st out).1.length + (impl_sweepWord.popG b st out).2.length = st.length + out.length := by
  intro st
  induction st with
  | nil => intro out; simp [impl_sweepWord.popG]
  | cons x s ih =>
    intro out
    simp only [impl_sweepWord.popG]
    split
    · rw [ih]; simp; omega
    · rfl
theorem popG_less (b : Int) : ∀ (st out : List Int), (impl_sweepWord.popG b st out).1.length ≤ st.length := by
  intro st
  induction st with
  | nil => intro out; simp [impl_sweepWord.popG]
  | cons x s ih =>
    intro out
    simp only [impl_sweepWord.popG]
    split
    · exact Nat.le_trans (ih _) (by simp)
    · exact Nat.le_refl _
theorem popG_mem (b : Int) : ∀ (st out : List Int), ∀ y ∈ (impl_sweepWord.popG b st out).1, y ∈ st := by
  intro st
  induction st with
  | nil => intro out y h; simp [impl_sweepWord.popG] at h
  | cons x s ih =>
    intro out y
    simp only [impl_sweepWord.popG]
    split
    · intro h; exact List.mem_cons_of_mem _ (ih _ y h)
    · exact fun h => h
theorem pop8 : ∀ (st out : List Int), (∀ x ∈ st, x < 8) → impl_sweepWord.popG 8 st out = ([], out ++ List.replicate st.length 79) := by
  intro st
  induction st with
  | nil => intro out _; simp [impl_sweepWord.popG]
  | cons x s ih =>
    intro out h
    rw [impl_sweepWord.popG, if_pos (h x (by simp)), ih _ (fun y hy => h y (by simp [hy]))]
    simp [List.replicate_succ]
theorem ord_small {l : List Int} (h : isOrd l = true) : ∀ x ∈ l, x < 8 := fun x hx => by
  have := ord_range h x hx; have := (ord_len h).2; omega
theorem impl_sweepword_ev (l : List Int) (h : isOrd l = true) : Ev (fun _ => impl_sweepWord.f l) (strOfNums (impl_sweepWord.goG l [] [])) := by
  unfold impl_sweepWord.f
  have := (ord_len h).2
  exact ev_pos (by omega) (ev_now rfl)

theorem spec_sw_2 : ∀ (j : Nat) (st out : List Int) (i : Nat), st.length = i + j → out.length + j ≤ 100 → st.length ≤ 100 → Ev (fun k => spec_l4SweepWord.l2 k (strOfNums out) st.reverse (i : Int)) (strOfNums (out ++ List.replicate j 79)) := by
  intro j
  induction j with
  | zero =>
    intro st out i h ho hs
    refine ev_succ ?_
    simp only [spec_l4SweepWord.l2.eq_2]
    exact ev_neg (by simp; omega) (ev_now (by simp))
  | succ j ih =>
    intro st out i h ho hs
    have hsz : (strOfNums out).size = out.length := str_size out
    refine ev_succ ?_
    simp only [spec_l4SweepWord.l2.eq_2, str_snocO]
    rw [wrap_of (by omega) (by omega), show (i : Int) + 1 = ((i + 1 : Nat) : Int) by omega]
    refine ev_pos (by simp; omega) (ev_pos (by omega) (ev_eq (ih st (out ++ [79]) (i + 1) (by omega) (by simp; omega) hs) ?_))
    simp [List.replicate_succ]
theorem spec_sw_1 (l : List Int) (n : Int) (i : Nat) (hi : i < l.length) (hl : l.length ≤ 7) (hn : rd l (i : Int) = n) (R : ByteArray) : ∀ (st out : List Int), st.length + out.length ≤ 100 →
    Ev (fun k => spec_l4SweepWord.l0 k l (strOfNums ((impl_sweepWord.popG n st out).2 ++ [73])) (n :: (impl_sweepWord.popG n st out).1).reverse (wrap64 ((i : Int) + 1))) R →
    Ev (fun k => spec_l4SweepWord.l1 k l (strOfNums out) st.reverse (i : Int)) R := by
  intro st
  induction st with
  | nil =>
    intro out h hR
    have hsz : (strOfNums out).size = out.length := str_size out
    refine ev_succ ?_
    simp only [spec_l4SweepWord.l1.eq_2, hn, str_snocI]
    refine ev_neg (by simp) (ev_pos (by omega) (ev_pos (by omega) (ev_pos (by simp) (ev_pos (by simp at h; omega) ?_))))
    simpa [impl_sweepWord.popG] using hR
  | cons x s ih =>
    intro out h hR
    simp only [List.length_cons] at h
    have hsz : (strOfNums out).size = out.length := str_size out
    have hl2 : ((x :: s).reverse.length : Int) = (s.length : Int) + 1 := by simp
    refine ev_succ ?_
    simp only [spec_l4SweepWord.l1.eq_2, hn, str_snocI, str_snocO]
    rw [wrap_of (x := ((x :: s).reverse.length : Int) - 1) (by omega) (by omega), top_rev, pop_rev]
    refine ev_pos (by omega) (ev_pos (by omega) (ev_pos (by omega) (ev_pos (by omega) (ev_pos (by omega) ?_))))
    by_cases hx : x < n
    · rw [impl_sweepWord.popG, if_pos hx] at hR
      exact ev_pos hx (ev_pos (by omega) (ev_pos (by omega) (ih (out ++ [79]) (by simp; omega) hR)))
    · rw [impl_sweepWord.popG, if_neg hx] at hR
      exact ev_neg hx (ev_pos (by simp; omega) (ev_pos (by omega) (by simpa using hR)))
theorem spec_sw_0 (l : List Int) (hl : l.length ≤ 7) (h8 : ∀ x ∈ l, x < 8) : ∀ (suf pre st out : List Int), l = pre ++ suf → (∀ x ∈ st, x < 8) → st.length ≤ pre.length → st.length + out.length = 2 * pre.length →
    Ev (fun k => spec_l4SweepWord.l0 k l (strOfNums out) st.reverse (pre.length : Int)) (strOfNums (impl_sweepWord.goG suf st out)) := by
  intro suf
  induction suf with
  | nil =>
    intro pre st out e hs h1 h2
    have h := len_end e
    refine ev_succ ?_
    simp only [spec_l4SweepWord.l0.eq_2]
    refine ev_neg (by omega) (ev_eq (spec_sw_2 st.length st out 0 (by omega) (by omega) (by omega)) ?_)
    rw [impl_sweepWord.goG, pop8 _ _ hs]
  | cons c suf ih =>
    intro pre st out e hs h1 h2
    have h := len_mid e
    have hp1 := popG_sum c st out
    have hp2 := popG_less c st out
    refine ev_succ ?_
    simp only [spec_l4SweepWord.l0.eq_2]
    refine ev_pos (by omega) (spec_sw_1 l c pre.length (by omega) hl (rd_mid' e) _ st out (by omega) ?_)
    rw [wrap_snoc (pre := pre) (c := c) (by omega)]
    refine ev_eq (ih _ _ _ (snoc_mid e) ?_ (by simp; omega) (by simp; omega)) (by rw [impl_sweepWord.goG])
    intro x hx
    rcases List.mem_cons.1 hx with hx | hx
    · rw [hx]; exact h8 c (by rw [e]; simp)
    · exact hs x (popG_mem c st out x hx)
theorem spec_sweepword_ev (l : List Int) (h : isOrd l = true) : Ev (fun k => spec_l4SweepWord.f k l) (strOfNums (impl_sweepWord.goG l [] [])) := by
  unfold spec_l4SweepWord.f
  have := spec_sw_0 l (ord_len h).2 (ord_small h) l [] [] [] rfl (by simp) (by simp) (by simp)
  simpa [str_nil] using this

/-! ### the sweep's word is a word -/
theorem popG_form (n : Int) : ∀ (st out : List Int), ∃ (j : Nat) (s : List Int), impl_sweepWord.popG n st out = (s, out ++ List.replicate j 79) ∧ st.length = j + s.length ∧ (∀ y ∈ s, y ∈ st) := by
  intro st
  induction st with
  | nil => intro out; exact ⟨0, [], by simp [impl_sweepWord.popG], rfl, fun _ h => h⟩
  | cons x s ih =>
    intro out
    by_cases hx : x < n
    · obtain ⟨j, s', h1, h2, h3⟩ := ih (out ++ [79])
      refine ⟨j + 1, s', ?_, by simp; omega, fun y hy => List.mem_cons_of_mem _ (h3 y hy)⟩
      rw [impl_sweepWord.popG, if_pos hx, h1]
      simp [List.replicate_succ]
    · exact ⟨0, x :: s, by rw [impl_sweepWord.popG, if_neg hx]; simp, by simp, fun _ h => h⟩
theorem wGo_rep : ∀ (j : Nat) (r : List Int) (d : Nat), j ≤ d → wGo (List.replicate j 79 ++ r) (d : Int) = wGo r ((d - j : Nat) : Int) := by
  intro j
  induction j with
  | zero => intro r d h; simp
  | succ j ih =>
    intro r d h
    rw [List.replicate_succ, List.cons_append, wGo_out, if_pos (by omega), show (d : Int) - 1 = ((d - 1 : Nat) : Int) by omega, ih r (d - 1) (by omega)]
    congr 2
    omega
theorem goG_word : ∀ (suf st out : List Int), (∀ x ∈ st, x < 8) → (∀ x ∈ suf, x < 8) → ∃ r, impl_sweepWord.goG suf st out = out ++ r ∧ wGo r (st.length : Int) = true ∧ r.length = 2 * suf.length + st.length ∧ (∀ c ∈ r, c = 73 ∨ c = 79) := by
  intro suf
  induction suf with
  | nil =>
    intro st out hs _
    refine ⟨List.replicate st.length 79, by rw [impl_sweepWord.goG, pop8 _ _ hs], ?_, by simp, fun c hc => .inr (List.eq_of_mem_replicate hc)⟩
    have := wGo_rep st.length [] st.length (Nat.le_refl _)
    rw [List.append_nil] at this
    rw [this]
    simp [wGo]
  | cons n t ih =>
    intro st out hs ht
    obtain ⟨j, s, h1, h2, h3⟩ := popG_form n st out
    obtain ⟨r, g1, g2, g3, g4⟩ := ih (n :: s) (out ++ List.replicate j 79 ++ [73]) (by
      intro x hx
      rcases List.mem_cons.1 hx with hx | hx
      · rw [hx]; exact ht n (by simp)
      · exact hs x (h3 x hx)) (fun x hx => ht x (by simp [hx]))
    refine ⟨List.replicate j 79 ++ 73 :: r, ?_, ?_, ?_, ?_⟩
    · rw [impl_sweepWord.goG, h1, g1]; simp
    · rw [wGo_rep j _ st.length (by omega), wGo_in]
      have e : ((st.length - j : Nat) : Int) + 1 = ((n :: s).length : Int) := by simp; omega
      rw [e]; exact g2
    · simp at g3 ⊢; omega
    · intro c hc
      rcases List.mem_append.1 hc with hc | hc
      · exact .inr (List.eq_of_mem_replicate hc)
      · rcases List.mem_cons.1 hc with hc | hc
        · exact .inl hc
        · exact g4 c hc
def swW (l : List Int) : ByteArray := strOfNums (impl_sweepWord.goG l [] [])
theorem swW_ok {l : List Int} (h : isOrd l = true) : bytesOf (swW l) = impl_sweepWord.goG l [] [] ∧ wGo (bytesOf (swW l)) 0 = true ∧ (swW l).size = 2 * l.length := by
  obtain ⟨r, g1, g2, g3, g4⟩ := goG_word l [] [] (by simp) (ord_small h)
  rw [List.nil_append] at g1
  have hb : bytesOf (swW l) = impl_sweepWord.goG l [] [] := by
    unfold swW
    refine bytes_str (fun x hx => ?_)
    rw [g1] at hx
    rcases g4 x hx with h | h <;> omega
  refine ⟨hb, ?_, ?_⟩
  · rw [hb, g1]; exact g2
  · unfold swW; rw [str_size, g1, g3]; simp
def sweepL (l : List Int) : List Int := runL l (bytesOf (swW l))
theorem sweepL_length {l : List Int} (h : isOrd l = true) : (sweepL l).length ≤ 14 := by
  obtain ⟨h1, h2, h3⟩ := swW_ok h
  have := runGo_length (bytesOf (swW l)) l [] []
  rw [bytes_len, h3] at this
  have h7 := (ord_len h).2
  unfold sweepL runL; simp at this; omega

theorem impl_sweep_ev (l : List Int) (h : isOrd l = true) : Ev (fun k => impl_sweep.f k l) (sweepL l) := by
  unfold impl_sweep.f
  obtain ⟨h1, h2, h3⟩ := swW_ok h
  exact ev_bind (impl_sweepword_ev l h) (ev_bind (impl_run_ev l (swW l) (ord_len h).2 h2 h3) (ev_now rfl))

theorem spec_sweep_ev (l : List Int) (h : isOrd l = true) : Ev (fun k => spec_l4Sweep.f k l) (sweepL l) := by
  unfold spec_l4Sweep.f
  obtain ⟨h1, h2, h3⟩ := swW_ok h
  exact ev_bind (spec_sweepword_ev l h) (ev_bind (spec_run_ev l (swW l) (ord_len h).2 h2 h3) (ev_now rfl))

theorem own_ev (l : List Int) (h : l.length ≤ 1000000) : Ev (fun _ => spec_l1Own.f l) l := by
  unfold spec_l1Own.f
  exact ev_let (ev_pos (by simp; omega) (ev_now (by simp)))

/-! ### the order with a rank -/
theorem tdiv_nat (a b : Nat) : Int.tdiv (a : Int) (b : Int) = ((a / b : Nat) : Int) := (Int.ofNat_tdiv a b).symm
theorem tmod_nat (a b : Nat) : Int.tmod (a : Int) (b : Int) = ((a % b : Nat) : Int) := (Int.ofNat_tmod a b).symm
theorem rd_getD (l : List Int) (n : Nat) : rd l (n : Int) = l.getD n 0 := by unfold rd; simp
theorem impl_oat_l : ∀ (r : Nat) (left out : List Int) (k : Nat), left.length = r → r ≤ 7 → out.length + r ≤ 7 → k < fac r → Ev (fun n => impl_orderAt.l0 n (k : Int) left out) (out ++ atGo r left k) := by
  intro r
  induction r with
  | zero =>
    intro left out k hl h7 ho hk
    refine ev_succ ?_
    simp only [impl_orderAt.l0.eq_2]
    exact ev_neg (by omega) (ev_now (by simp [atGo]))
  | succ r ih =>
    intro left out k hl h7 ho hk
    have hp := fac_pos r
    have hf := fac_le (n := r) (by omega)
    have hq : k / fac r < r + 1 := by rw [fac] at hk; rw [Nat.div_lt_iff_lt_mul hp]; exact hk
    have hm : k % fac r < fac r := Nat.mod_lt _ hp
    obtain ⟨q, hqe⟩ : ∃ q, q = k / fac r := ⟨_, rfl⟩
    rw [← hqe] at hq
    refine ev_succ ?_
    simp only [impl_orderAt.l0.eq_2]
    rw [wrap_of (x := (left.length : Int) - 1) (by omega) (by omega), show (left.length : Int) - 1 = (r : Int) by omega]
    refine ev_pos (by omega) (ev_bind (fact_ev r (by omega)) ?_)
    rw [tdiv_nat, tmod_nat, ← hqe, wrap_of (x := ((q : Nat) : Int)) (by omega) (by omega)]
    refine ev_neg (by omega) (ev_pos (by omega) (ev_pos (by omega) (ev_pos (by omega) (ev_bind (delete_ev left q (by omega) (by omega)) ?_))))
    rw [rd_getD]
    refine ev_eq (ih _ _ _ (by rw [List.length_eraseIdx_of_lt (by omega)]; omega) (by omega) (by simp; omega) hm) ?_
    simp [atGo, hqe]
theorem spec_oat_l : ∀ (r : Nat) (left out : List Int) (k : Nat), left.length = r → r ≤ 7 → out.length + r ≤ 7 → k < fac r → Ev (fun n => spec_l2At.l0 n (k : Int) out left) (out ++ atGo r left k) := by
  intro r
  induction r with
  | zero =>
    intro left out k hl h7 ho hk
    refine ev_succ ?_
    simp only [spec_l2At.l0.eq_2]
    exact ev_neg (by omega) (ev_now (by simp [atGo]))
  | succ r ih =>
    intro left out k hl h7 ho hk
    have hp := fac_pos r
    have hf := fac_le (n := r) (by omega)
    have hq : k / fac r < r + 1 := by rw [fac] at hk; rw [Nat.div_lt_iff_lt_mul hp]; exact hk
    have hm : k % fac r < fac r := Nat.mod_lt _ hp
    obtain ⟨q, hqe⟩ : ∃ q, q = k / fac r := ⟨_, rfl⟩
    rw [← hqe] at hq
    refine ev_succ ?_
    simp only [spec_l2At.l0.eq_2]
    rw [wrap_of (x := (left.length : Int) - 1) (by omega) (by omega), show (left.length : Int) - 1 = (r : Int) by omega]
    refine ev_pos (by omega) (ev_bind (ways_ev r (by omega)) ?_)
    rw [tdiv_nat, tmod_nat, ← hqe, wrap_of (x := ((q : Nat) : Int)) (by omega) (by omega), wrap_of (x := ((q : Nat) : Int) + 1) (by omega) (by omega)]
    refine ev_neg (by omega) (ev_pos (by omega) (ev_pos (by omega) (ev_pos (by omega) (ev_pos (by omega) (ev_bind (own_ev _ (by simp; omega)) (ev_pos (by omega) (ev_pos (by omega) (ev_let (ev_pos (by simp; omega) ?_)))))))))
    rw [rd_getD, show ((((q : Nat) : Int)).toNat) = q by omega, show (((((q : Nat) : Int)) + 1).toNat) = q + 1 by omega, take_drop_erase]
    refine ev_eq (ih _ _ _ (by rw [List.length_eraseIdx_of_lt (by omega)]; omega) (by omega) (by simp; omega) hm) ?_
    simp [atGo, hqe]
theorem spec_sorted_tab : ∀ i : Fin 8, spec_l2Sorted.f 20 ((i.val : Nat) : Int) = some (iota 1 i.val) := by decide +kernel
theorem spec_sorted_ev (n : Nat) (h : n ≤ 7) : Ev (fun k => spec_l2Sorted.f k (n : Int)) (iota 1 n) := Ev.of (fun k => spec_l2Sorted.mono _ k) (spec_sorted_tab ⟨n, by omega⟩)

/-! ### all orders -/
theorem impl_orders_l (n : Nat) (hn : n ≤ 7) : ∀ (d j : Nat), j + d = fac n → Ev (fun k => impl_allOrders.l0 k (n : Int) ((List.range j).map (orderAtL n)) (fac n : Int) (j : Int)) (ordersL n) := by
  intro d
  have hf := fac_le hn
  induction d with
  | zero =>
    intro j e
    refine ev_succ ?_
    simp only [impl_allOrders.l0.eq_2]
    exact ev_neg (by omega) (ev_now (by unfold ordersL; rw [← e]; rfl))
  | succ d ih =>
    intro j e
    refine ev_succ ?_
    simp only [impl_allOrders.l0.eq_2]
    rw [wrap_of (x := (j : Int) + 1) (by omega) (by omega)]
    refine ev_pos (by omega) (ev_bind (a := orderAtL n j) ?_ (ev_pos (by simp; omega) ?_))
    · unfold impl_orderAt.f
      refine ev_bind (sorted_ev n hn) ?_
      exact impl_oat_l n (iota 1 n) [] j (iota_length _ _) (by omega) (by simp; omega) (by omega)
    · have h := ih (j + 1) (by omega)
      rw [List.range_succ, List.map_append] at h
      exact h
theorem impl_orders_ev (n : Nat) (hn : n ≤ 7) : Ev (fun k => impl_allOrders.f k (n : Int)) (ordersL n) := by
  unfold impl_allOrders.f
  exact ev_bind (fact_ev n hn) (impl_orders_l n hn (fac n) 0 (by omega))
theorem spec_orders_l (n : Nat) (hn : n ≤ 7) : ∀ (d j : Nat), j + d = fac n → Ev (fun k => spec_l2Orders.l0 k (n : Int) ((List.range j).map (orderAtL n)) (j : Int)) (ordersL n) := by
  intro d
  have hf := fac_le hn
  induction d with
  | zero =>
    intro j e
    refine ev_succ ?_
    simp only [spec_l2Orders.l0.eq_2]
    exact ev_bind (ways_ev n hn) (ev_neg (by omega) (ev_now (by unfold ordersL; rw [← e]; rfl)))
  | succ d ih =>
    intro j e
    refine ev_succ ?_
    simp only [spec_l2Orders.l0.eq_2]
    rw [wrap_of (x := (j : Int) + 1) (by omega) (by omega)]
    refine ev_bind (ways_ev n hn) (ev_pos (by omega) (ev_bind (a := orderAtL n j) ?_ (ev_pos (by simp; omega) ?_)))
    · unfold spec_l2At.f
      refine ev_bind (spec_sorted_ev n hn) ?_
      exact spec_oat_l n (iota 1 n) [] j (iota_length _ _) (by omega) (by simp; omega) (by omega)
    · have h := ih (j + 1) (by omega)
      rw [List.range_succ, List.map_append] at h
      exact h
theorem spec_orders_ev (n : Nat) (hn : n ≤ 7) : Ev (fun k => spec_l2Orders.f k (n : Int)) (ordersL n) := by
  unfold spec_l2Orders.f
  exact spec_orders_l n hn (fac n) 0 (by omega)

/-! ### slices.Equal -/
theorem equal_l (a b : List Int) (hl : a.length * 8 ≤ 140737488351232) : ∀ (s t pre q : List Int), a = pre ++ s → b = q ++ t → pre.length = q.length → s.length = t.length → Ev (fun k => slices_Equal_int_int.l0 k a b (a.length : Int) (pre.length : Int)) (decide (s = t)) := by
  intro s
  induction s with
  | nil =>
    intro t pre q e e' h1 h2
    have h := len_end e
    obtain rfl : t = [] := by cases t with
      | nil => rfl
      | cons _ _ => simp at h2
    refine ev_succ ?_
    simp only [slices_Equal_int_int.l0.eq_2]
    exact ev_neg (by omega) (ev_now (by simp))
  | cons c s ih =>
    intro t pre q e e' h1 h2
    cases t with
    | nil => simp at h2
    | cons d t =>
    have h := len_mid e
    have h' := len_mid e'
    refine ev_succ ?_
    have r1 := rd_mid' e
    have r2 := rd_mid' e'
    rw [← h1] at r2
    simp only [slices_Equal_int_int.l0.eq_2, r1, r2]
    refine ev_pos (by omega) (ev_pos (by omega) (ev_pos (by omega) (ev_pos (by omega) ?_)))
    by_cases hc : c = d
    · refine ev_pos hc ?_
      rw [wrap_snoc (pre := pre) (c := c) (by omega)]
      refine ev_eq (ih t (pre ++ [c]) (q ++ [d]) (snoc_mid e) (snoc_mid e') (by simp [h1]) (by simpa using h2)) ?_
      simp [hc]
    · exact ev_neg hc (ev_now (by simp [hc]))
theorem equal_ev (a b : List Int) (hl : a.length * 8 ≤ 140737488351232) : Ev (fun k => slices_Equal_int_int.f k a b) (decide (a = b)) := by
  unfold slices_Equal_int_int.f
  by_cases h : a.length = b.length
  · exact ev_pos (by omega) (equal_l a b hl a b [] [] rfl rfl rfl h)
  · refine ev_neg (by omega) (ev_now ?_)
    symm
    exact decide_eq_false (fun e => h (by rw [e]))

def swB (a c : List Int) : Bool := decide (sweepL c = a)
def swR (a : List Int) : List (List Int) × Bool := if isOrd a = true then ((ordersL a.length).filter (swB a), true) else ([], false)
theorem impl_g (a c : List Int) (hc : isOrd c = true) : Ev (fun k => impl_SweptFrom.g k a c) (swB a c) := by
  unfold impl_SweptFrom.g
  have hs := sweepL_length hc
  exact ev_bind (impl_sweep_ev c hc) (equal_ev (sweepL c) a (by omega))
theorem impl_ev (a : List Int) (ha : a.length ≤ 140737488351232) : Ev (fun k => impl_SweptFrom.f k a) (swR a) := by
  unfold impl_SweptFrom.f
  refine ev_bind (impl_order_ev a ha) ?_
  by_cases h : isOrd a = true
  · have hl := ord_len h
    have hf := fac_le (n := a.length) hl.2
    have hp := fac_pos a.length
    have hlen := ordersL_len a.length
    refine ev_pos h (ev_bind (impl_orders_ev a.length hl.2) (ev_pos ⟨by omega, by omega⟩ (ev_bind (keepM_ev (g := fun k => impl_SweptFrom.g k a) (B := swB a) (ordersL a.length) (fun c hc => impl_g a c (ordersL_ord hl.1 hl.2 hc))) (ev_now ?_))))
    unfold swR; rw [if_pos h]
  · exact ev_neg h (ev_now (by unfold swR; rw [if_neg h]))
theorem spec_l (a : List Int) (h : isOrd a = true) : ∀ (suf pre out : List (List Int)), ordersL a.length = pre ++ suf → out.length ≤ pre.length → Ev (fun k => spec_SweptFrom.l0 k a out (ordersL a.length) (pre.length : Int)) (out ++ suf.filter (swB a), true) := by
  have hl := ord_len h
  have hf := fac_le (n := a.length) hl.2
  have hlen := ordersL_len a.length
  intro suf
  induction suf with
  | nil =>
    intro pre out e ho
    have hh := len_end e
    refine ev_succ ?_
    simp only [spec_SweptFrom.l0.eq_2]
    exact ev_neg (by omega) (ev_now (by simp))
  | cons c suf ih =>
    intro pre out e ho
    have hh := len_mid e
    have hc := ordersL_ord hl.1 hl.2 (c := c) (by rw [e]; simp)
    have hs := sweepL_length hc
    have hrd : rd_L1 (ordersL a.length) (pre.length : Int) = c := by rw [e]; simp [rd_L1]
    refine ev_succ ?_
    simp only [spec_SweptFrom.l0.eq_2, hrd]
    rw [wrap_snoc (pre := pre) (c := c) (by omega)]
    refine ev_pos (by omega) (ev_pos (by omega) (ev_bind (spec_sweep_ev c hc) (ev_bind (same_ev (sweepL c) a (by omega)) ?_)))
    by_cases hq : sweepL c = a
    · refine ev_pos (decide_eq_true hq) (ev_pos (by omega) (ev_eq (ih _ _ (snoc_mid e) (by simp; omega)) ?_))
      rw [List.filter_cons, if_pos (show swB a c = true from decide_eq_true hq)]; simp
    · refine ev_neg (by simpa using hq) (ev_eq (ih _ _ (snoc_mid e) (by simp; omega)) ?_)
      rw [List.filter_cons, if_neg (show ¬ swB a c = true by simpa [swB] using hq)]
theorem spec_ev (a : List Int) (ha : a.length ≤ 140737488351232) : Ev (fun k => spec_SweptFrom.f k a) (swR a) := by
  unfold spec_SweptFrom.f
  refine ev_let (ev_bind (spec_order_ev a ha) ?_)
  by_cases h : isOrd a = true
  · refine ev_pos h (ev_bind (spec_orders_ev a.length (ord_len h).2) (ev_eq (spec_l a h (ordersL a.length) [] [] rfl (Nat.le_refl _)) ?_))
    unfold swR; rw [if_pos h]; rfl
  · exact ev_neg h (ev_now (by unfold swR; rw [if_neg h]))
theorem swR_ok (a : List Int) : (swR a).1.length ≤ 1048576 ∧ (swR a).1.all (fun xs => decide (xs.length ≤ 1048576)) = true := by
  unfold swR
  split
  · rename_i h
    have hl := ord_len h
    have hf := fac_le (n := a.length) hl.2
    have hlen := ordersL_len a.length
    have := List.length_filter_le (swB a) (ordersL a.length)
    refine ⟨by simp only; omega, List.all_eq_true.2 (fun xs hx => ?_)⟩
    have := ordersL_mem (List.mem_filter.1 hx).1
    exact decide_eq_true (by omega)
  · simp
theorem FnExactSweptFrom : laws_FnExactSweptFrom.Pure := by
  intro a hm ha hw
  apply Ev.rounds (r := true)
  unfold laws_FnExactSweptFrom.f
  by_cases h1 : (a.length : Int) > 1048576
  · exact ev_pos h1 (ev_now rfl)
  exact ev_neg h1 (ev_bind (spec_ev a (len_max ha)) (ev_bind (impl_ev a (len_max ha)) (ev_pos ⟨rfl, swR_ok a⟩ (ev_now rfl))))
end Go.Proofs.Ytjaplmgbhmgpiaa.Pure
