/- The pure statement of FnExactIsSortable: program and reference answer alike, at each of the 5913 orders. No condition. -/
import Derived.Test.YtdiecblalplalaaMFnExactIsSortablex5
import Derived.Test.YtdiecblalplalaaBase
import Derived.Test.YtdiecblalplalaaBaseW
import Derived.Test.YtdiecblalplalaaBaseR
import Derived.Test.YtdiecblalplalaaBaseT
import Derived.Test.YtdiecblalplalaaBaseO
import Derived.Test.YtdiecblalplalaaBaseG
namespace Go.Proofs.Ytdiecblalplalaa.Pure
open Go Go.RowKit Go.Proofs.Ytdiecblalplalaa.MFnExactIsSortable Go.Proofs.YtdiecblalplalaaW.PrintWords Go.Proofs.Ytdiecblalplalaa.Base
set_option linter.unusedVariables false
set_option linter.unusedSimpArgs false
/-! ### laws.toIntS, laws.eqIntS -/
theorem toInt_l (l : List Int) (hl : l.length * 8 ≤ 140737488351232) : ∀ (suf pre : List Int), l = pre ++ suf → Ev (fun k => laws_toIntS.l0 k l (pre ++ List.replicate suf.length 0) (pre.length : Int)) l := by
  intro suf
  induction suf with
  | nil =>
    intro pre e
    have h := len_end e
    refine ev_succ ?_
    simp only [laws_toIntS.l0.eq_2]
    refine ev_neg (by omega) ?_
    exact ev_now (by rw [e]; simp)
  | cons c suf ih =>
    intro pre e
    have h := len_mid e
    refine ev_succ ?_
    simp only [laws_toIntS.l0.eq_2, rd_mid' e]
    refine ev_pos (by omega) (ev_pos (by omega) (ev_pos (by simp; omega) ?_))
    rw [wrap_snoc (pre := pre) (c := c) (by omega)]
    have e2 : (pre ++ List.replicate (c :: suf).length 0).set ((pre.length : Int)).toNat c = (pre ++ [c]) ++ List.replicate suf.length 0 := by
      simp [List.replicate_succ]
    rw [e2]
    exact ih _ (snoc_mid e)
theorem toInt_ev (l : List Int) (hl : l.length * 8 ≤ 140737488351232) : Ev (fun k => laws_toIntS.f k l) l := by
  unfold laws_toIntS.f
  refine ev_pos (by omega) (ev_pos (by omega) ?_)
  have := toInt_l l hl l [] rfl
  simpa using this

theorem eqInt_l (a b : List Int) (hl : a.length * 8 ≤ 140737488351232) : ∀ (s t pre q : List Int), a = pre ++ s → b = q ++ t → pre.length = q.length → s.length = t.length → Ev (fun k => laws_eqIntS.l0 k a b (pre.length : Int)) (decide (s = t)) := by
  intro s
  induction s with
  | nil =>
    intro t pre q e e' h1 h2
    have h := len_end e
    obtain rfl : t = [] := by cases t with
      | nil => rfl
      | cons _ _ => simp at h2
    refine ev_succ ?_
    simp only [laws_eqIntS.l0.eq_2]
    refine ev_neg (by omega) ?_
    exact ev_now (by simp)
  | cons c s ih =>
    intro t pre q e e' h1 h2
    cases t with
    | nil => simp at h2
    | cons d t =>
    have h := len_mid e
    have h' := len_mid e'
    refine ev_succ ?_
    have r1 := rd_mid' e
    have r2 := rd_mid' e'
    rw [← h1] at r2
    simp only [laws_eqIntS.l0.eq_2, r1, r2]
    refine ev_pos (by omega) (ev_pos (by omega) (ev_pos (by omega) ?_))
    by_cases hc : c = d
    · refine ev_pos hc ?_
      rw [wrap_snoc (pre := pre) (c := c) (by omega)]
      refine ev_eq (ih t (pre ++ [c]) (q ++ [d]) (snoc_mid e) (snoc_mid e') (by simp [h1]) (by simpa using h2)) ?_
      simp [hc]
    · refine ev_neg hc (ev_now ?_)
      simp [hc]
theorem eqInt_ev (a b : List Int) (hl : a.length * 8 ≤ 140737488351232) : Ev (fun k => laws_eqIntS.f k a b) (decide (a = b)) := by
  unfold laws_eqIntS.f
  by_cases h : a.length = b.length
  · refine ev_pos (by omega) ?_
    exact eqInt_l a b hl a b [] [] rfl rfl rfl h
  · refine ev_neg (by omega) (ev_now ?_)
    symm
    exact decide_eq_false (fun e => h (by rw [e]))

/-! ### Is it an order? -/
theorem in_ev (a b c : Int) : Ev (fun _ => spec_l1In.f a b c) (decide (b ≤ a) && decide (a ≤ c)) := by
  unfold spec_l1In.f
  by_cases h : a ≥ b
  · refine ev_pos h (ev_now ?_)
    have : decide (b ≤ a) = true := decide_eq_true h
    rw [this]; rfl
  · refine ev_neg h (ev_now ?_)
    have : decide (b ≤ a) = false := decide_eq_false (by omega)
    rw [this]; rfl

theorem has_l (l : List Int) (x : Int) (hl : l.length ≤ 140737488351232) : ∀ (suf pre : List Int), l = pre ++ suf → Ev (fun k => spec_l1Has.l0 k l x (pre.length : Int)) (decide (x ∈ suf)) := by
  intro suf
  induction suf with
  | nil =>
    intro pre e
    have h := len_end e
    refine ev_succ ?_
    simp only [spec_l1Has.l0.eq_2]
    refine ev_neg (by omega) ?_
    exact ev_now (by simp)
  | cons c suf ih =>
    intro pre e
    have h := len_mid e
    refine ev_succ ?_
    simp only [spec_l1Has.l0.eq_2, rd_mid' e]
    refine ev_pos (by omega) (ev_pos (by omega) ?_)
    by_cases hc : c = x
    · exact ev_pos hc (ev_now (by simp [hc]))
    · refine ev_neg hc ?_
      rw [wrap_snoc (pre := pre) (c := c) (by omega)]
      refine ev_eq (ih _ (snoc_mid e)) ?_
      have : x ≠ c := fun h => hc h.symm
      simp [this]
theorem has_ev (l : List Int) (x : Int) (hl : l.length ≤ 140737488351232) : Ev (fun k => spec_l1Has.f k l x) (decide (x ∈ l)) := by
  unfold spec_l1Has.f
  exact has_l l x hl l [] rfl
theorem idx_l (l : List Int) (x : Int) (hl : l.length ≤ 140737488351232) : ∀ (suf pre : List Int), l = pre ++ suf → Ev (fun k => slices_Index_int_int.l0 k l x (l.length : Int) (pre.length : Int)) (if x ∈ suf then ((pre.length + suf.idxOf x : Nat) : Int) else -1) := by
  intro suf
  induction suf with
  | nil =>
    intro pre e
    have h := len_end e
    refine ev_succ ?_
    simp only [slices_Index_int_int.l0.eq_2]
    refine ev_neg (by omega) ?_
    exact ev_now (by simp)
  | cons c suf ih =>
    intro pre e
    have h := len_mid e
    refine ev_succ ?_
    simp only [slices_Index_int_int.l0.eq_2, rd_mid' e]
    refine ev_pos (by omega) (ev_pos (by omega) (ev_pos (by omega) ?_))
    by_cases hc : x = c
    · exact ev_pos hc (ev_now (by simp [hc]))
    · refine ev_neg hc ?_
      rw [wrap_snoc (pre := pre) (c := c) (by omega)]
      refine ev_eq (ih _ (snoc_mid e)) ?_
      have hc' : ¬ c = x := fun h => hc h.symm
      have hb : (c == x) = false := by simpa using hc'
      simp only [List.mem_cons, hc, false_or, List.idxOf_cons, hb, cond_false]
      by_cases hm : x ∈ suf
      · rw [if_pos hm, if_pos hm]; simp; omega
      · rw [if_neg hm, if_neg hm]
theorem idx_ev (l : List Int) (x : Int) (hl : l.length ≤ 140737488351232) : Ev (fun k => slices_Index_int_int.f k l x) (if x ∈ l then ((l.idxOf x : Nat) : Int) else -1) := by
  unfold slices_Index_int_int.f
  simpa using idx_l l x hl l [] rfl
theorem contains_ev (l : List Int) (x : Int) (hl : l.length ≤ 140737488351232) : Ev (fun k => slices_Contains_int_int.f k l x) (decide (x ∈ l)) := by
  unfold slices_Contains_int_int.f
  refine ev_bind (idx_ev l x hl) (ev_now ?_)
  by_cases h : x ∈ l
  · simp [h]
  · simp [h]

theorem spec_order_l (l : List Int) (hl : l.length ≤ 140737488351232) : ∀ (suf pre : List Int), l = pre ++ suf → Ev (fun k => spec_l2Order.l0 k l (pre.length : Int)) (ordGo (l.length : Int) pre suf) := by
  intro suf
  induction suf with
  | nil =>
    intro pre e
    have h := len_end e
    refine ev_succ ?_
    simp only [spec_l2Order.l0.eq_2]
    refine ev_neg (by omega) ?_
    exact ev_now rfl
  | cons c suf ih =>
    intro pre e
    have h := len_mid e
    refine ev_succ ?_
    simp only [spec_l2Order.l0.eq_2, rd_mid' e, take_mid e]
    refine ev_pos (by omega) (ev_pos (by omega) (ev_bind (in_ev _ _ _) ?_))
    by_cases hr : 1 ≤ c ∧ c ≤ (l.length : Int)
    · refine ev_pos (by simp [hr.1, hr.2]) (ev_pos (by omega) (ev_bind (has_ev pre c (by omega)) ?_))
      by_cases hc : c ∈ pre
      · exact ev_pos (by simp [hc]) (ev_now (by simp [ordGo, hc]))
      · refine ev_neg (by simp [hc]) ?_
        rw [wrap_snoc (pre := pre) (c := c) (by omega)]
        refine ev_eq (ih _ (snoc_mid e)) ?_
        simp [ordGo, hr.1, hr.2, hc]
    · refine ev_neg (by simp; omega) (ev_now ?_)
      simp only [ordGo]
      rw [if_neg (fun h => hr ⟨h.1, h.2.1⟩)]
theorem spec_order_ev (l : List Int) (hl : l.length ≤ 140737488351232) : Ev (fun k => spec_l2Order.f k l) (isOrd l) := by
  unfold spec_l2Order.f
  refine ev_bind (in_ev _ _ _) ?_
  unfold isOrd
  by_cases h : 1 ≤ l.length ∧ l.length ≤ 7
  · refine ev_pos (by simp; omega) ?_
    rw [if_pos h]
    exact spec_order_l l hl l [] rfl
  · refine ev_neg (by simp; omega) (ev_now ?_)
    rw [if_neg h]
theorem impl_order_l (l : List Int) (hl : l.length ≤ 140737488351232) : ∀ (suf pre : List Int), l = pre ++ suf → Ev (fun k => impl_isOrder.l0 k l l (l.length : Int) (pre.length : Int)) (ordGo (l.length : Int) pre suf) := by
  intro suf
  induction suf with
  | nil =>
    intro pre e
    have h := len_end e
    refine ev_succ ?_
    simp only [impl_isOrder.l0.eq_2]
    refine ev_neg (by omega) ?_
    exact ev_now rfl
  | cons c suf ih =>
    intro pre e
    have h := len_mid e
    refine ev_succ ?_
    simp only [impl_isOrder.l0.eq_2, rd_mid' e, take_mid e]
    refine ev_pos (by omega) (ev_pos (by omega) (ev_pos (by omega) ?_))
    by_cases h1 : c < 1
    · exact ev_pos h1 (ev_now (by simp only [ordGo]; rw [if_neg (fun h => by omega)]))
    refine ev_neg h1 ?_
    by_cases h2 : c > (l.length : Int)
    · exact ev_pos h2 (ev_now (by simp only [ordGo]; rw [if_neg (fun h => by omega)]))
    refine ev_neg h2 (ev_pos (by omega) (ev_bind (contains_ev pre c (by omega)) ?_))
    by_cases hc : c ∈ pre
    · exact ev_pos (by simp [hc]) (ev_now (by simp [ordGo, hc]))
    · refine ev_neg (by simp [hc]) ?_
      rw [wrap_snoc (pre := pre) (c := c) (by omega)]
      refine ev_eq (ih _ (snoc_mid e)) ?_
      simp only [ordGo]
      rw [if_pos ⟨by omega, by omega, hc⟩]
theorem impl_order_ev (l : List Int) (hl : l.length ≤ 140737488351232) : Ev (fun k => impl_isOrder.f k l) (isOrd l) := by
  have key : ∀ b : Bool, Ev (fun k => impl_isOrder.j0 k l b) (if b = true then false else ordGo (l.length : Int) [] l) := by
    intro b
    refine ev_succ ?_
    simp only [impl_isOrder.j0.eq_2]
    cases b with
    | true => exact ev_pos rfl (ev_now rfl)
    | false => exact ev_neg (by simp) (impl_order_l l hl l [] rfl)
  unfold impl_isOrder.f isOrd
  by_cases h1 : (l.length : Int) < 1
  · refine ev_pos h1 (ev_eq (key true) ?_)
    rw [if_pos rfl, if_neg (fun h => by omega)]
  · refine ev_neg h1 (ev_eq (key _) ?_)
    by_cases h2 : (l.length : Int) > 7
    · rw [if_neg (c := 1 ≤ l.length ∧ l.length ≤ 7) (fun h => by omega), if_pos (decide_eq_true h2)]
    · rw [if_pos (c := 1 ≤ l.length ∧ l.length ≤ 7) ⟨by omega, by omega⟩, if_neg (by simp; omega)]

theorem impl_run_l (w : ByteArray) (hw : w.size ≤ 14) : ∀ (suf pre rem st out : List Int), bytesOf w = pre ++ suf → wGo suf (st.length : Int) = true → suf.length = 2 * rem.length + st.length → out.length + st.length + rem.length ≤ 7 → Ev (fun k => impl_runWord.l0 k rem w st.reverse out.reverse (w.size : Int) (pre.length : Int)) (runGo suf rem st out) := by
  intro suf
  induction suf with
  | nil =>
    intro pre rem st out e hg h2 h3
    have h := size_end e
    refine ev_succ ?_
    simp only [impl_runWord.l0.eq_2]
    exact ev_neg (by omega) (ev_now (by simp [runGo]))
  | cons c suf ih =>
    intro pre rem st out e hg h2 h3
    have h := size_mid e
    simp only [List.length_cons] at h2
    refine ev_succ ?_
    simp only [impl_runWord.l0.eq_2, bt_mid e]
    rw [wrap_snoc (pre := pre) (c := c) (by omega)]
    refine ev_pos (by omega) (ev_pos (by omega) (ev_pos (by omega) ?_))
    by_cases hI : c = 73
    · subst hI
      rw [wGo_in] at hg
      have hlen := wGo_len _ _ (by omega) hg
      cases rem with
      | nil => simp only [List.length_nil] at h2; omega
      | cons x rem =>
        simp only [List.length_cons] at h2 h3
        rw [show rd (x :: rem) 0 = x from rfl, show st.reverse ++ [x] = (x :: st).reverse by simp, show (x :: rem).drop 1 = rem from rfl]
        refine ev_pos rfl (ev_pos (by simp only [List.length_cons]; omega) (ev_pos (by simp; omega) (ev_pos (by simp only [List.length_cons]; omega) ?_)))
        refine ev_eq (ih _ rem (x :: st) out (snoc_mid e) ?_ ?_ ?_) ?_
        · simpa using hg
        · simp only [List.length_cons]; omega
        · simp only [List.length_cons]; omega
        · simp [runGo]
    · by_cases hO : c = 79
      · subst hO
        rw [wGo_out] at hg
        by_cases hd : (st.length : Int) > 0
        · rw [if_pos hd] at hg
          cases st with
          | nil => simp at hd
          | cons x st =>
            simp only [List.length_cons] at hg h2 h3
            have hlen : ((x :: st).reverse.length : Int) = st.length + 1 := by simp
            rw [wrap_of (x := ((x :: st).reverse.length : Int) - 1) (by omega) (by omega), top_rev, pop_rev, show out.reverse ++ [x] = (x :: out).reverse by simp]
            refine ev_neg hI (ev_pos (by omega) (ev_pos (by omega) (ev_pos (by simp; omega) (ev_pos (by omega) ?_))))
            refine ev_eq (ih _ rem st (x :: out) (snoc_mid e) ?_ ?_ ?_) ?_
            · rw [show ((st.length : Nat) : Int) = ((st.length + 1 : Nat) : Int) - 1 by omega]; exact hg
            · omega
            · simp only [List.length_cons]; omega
            · simp [runGo]
        · rw [if_neg hd] at hg; cases hg
      · simp only [wGo] at hg
        rw [if_neg hI, if_neg hO] at hg; cases hg
theorem impl_run_ev (l : List Int) (w : ByteArray) (hl : l.length ≤ 7) (hg : wGo (bytesOf w) 0 = true) (hw : w.size = 2 * l.length) : Ev (fun k => impl_runWord.f k l w) (runL l (bytesOf w)) := by
  unfold impl_runWord.f
  exact impl_run_l w (by omega) (bytesOf w) [] l [] [] rfl (by simpa using hg) (by rw [bytes_len]; simp; omega) (by simp; omega)

/-! ### the word of the sweep -/
theorem popG_sum (b : Int) : ∀ (st out : List Int), (impl_sweepWord.popG b st out).1.length + (impl_sweepWord.popG b st out).2.length = st.length + out.length := by
  intro st
  induction st with
  | nil => intro out; simp [impl_sweepWord.popG]
  | cons x s ih =>
    intro out
    simp only [impl_sweepWord.popG]
    split
    · rw [ih]; simp; omega
    · rfl
theorem popG_less (b : Int) : ∀ (st out : List Int), (impl_sweepWord.popG b st out).1.length ≤ st.length := by
  intro st
  induction st with
  | nil => intro out; simp [impl_sweepWord.popG]
  | cons x s ih =>
    intro out
    simp only [impl_sweepWord.popG]
    split
    · exact Nat.le_trans (ih _) (by simp)
    · exact Nat.le_refl _
theorem popG_mem (b : Int) : ∀ (st out : List Int), ∀ y ∈ (impl_sweepWord.popG b st out).1, y ∈ st := by
  intro st
  induction st with
  | nil => intro out y h; simp [impl_sweepWord.popG] at h
  | cons x s ih =>
    intro out y
    simp only [impl_sweepWord.popG]
    split
    · intro h; exact List.mem_cons_of_mem _ (ih _ y h)
    · exact fun h => h
theorem pop8 : ∀ (st out : List Int), (∀ x ∈ st, x < 8) → impl_sweepWord.popG 8 st out = ([], out ++ List.replicate st.length 79) := by
  intro st
  induction st with
  | nil => intro out _; simp [impl_sweepWord.popG]
  | cons x s ih =>
    intro out h
    rw [impl_sweepWord.popG, if_pos (h x (by simp)), ih _ (fun y hy => h y (by simp [hy]))]
    simp [List.replicate_succ]
theorem ord_small {l : List Int} (h : isOrd l = true) : ∀ x ∈ l, x < 8 := fun x hx => by
  have := ord_range h x hx; have := (ord_len h).2; omega
theorem impl_sweepword_ev (l : List Int) (h : isOrd l = true) : Ev (fun _ => impl_sweepWord.f l) (strOfNums (impl_sweepWord.goG l [] [])) := by
  unfold impl_sweepWord.f
  have := (ord_len h).2
  exact ev_pos (by omega) (ev_now rfl)

/-! ### the sweep's word is a word -/
theorem popG_form (n : Int) : ∀ (st out : List Int), ∃ (j : Nat) (s : List Int), impl_sweepWord.popG n st out = (s, out ++ List.replicate j 79) ∧ st.length = j + s.length ∧ (∀ y ∈ s, y ∈ st) := by
  intro st
  induction st with
  | nil => intro out; exact ⟨0, [], by simp [impl_sweepWord.popG], rfl, fun _ h => h⟩
  | cons x s ih =>
    intro out
    by_cases hx : x < n
    · obtain ⟨j, s', h1, h2, h3⟩ := ih (out ++ [79])
      refine ⟨j + 1, s', ?_, by simp; omega, fun y hy => List.mem_cons_of_mem _ (h3 y hy)⟩
      rw [impl_sweepWord.popG, if_pos hx, h1]
      simp [List.replicate_succ]
    · exact ⟨0, x :: s, by rw [impl_sweepWord.popG, if_neg hx]; simp, by simp, fun _ h => h⟩
theorem wGo_rep : ∀ (j : Nat) (r : List Int) (d : Nat), j ≤ d → wGo (List.replicate j 79 ++ r) (d : Int) = wGo r ((d - j : Nat) : Int) := by
  intro j
  induction j with
  | zero => intro r d h; simp
  | succ j ih =>
    intro r d h
    rw [List.replicate_succ, List.cons_append, wGo_out, if_pos (by omega), show (d : Int) - 1 = ((d - 1 : Nat) : Int) by omega, ih r (d - 1) (by omega)]
    congr 2
    omega
theorem goG_word : ∀ (suf st out : List Int), (∀ x ∈ st, x < 8) → (∀ x ∈ suf, x < 8) → ∃ r, impl_sweepWord.goG suf st out = out ++ r ∧ wGo r (st.length : Int) = true ∧ r.length = 2 * suf.length + st.length ∧ (∀ c ∈ r, c = 73 ∨ c = 79) := by
  intro suf
  induction suf with
  | nil =>
    intro st out hs _
    refine ⟨List.replicate st.length 79, by rw [impl_sweepWord.goG, pop8 _ _ hs], ?_, by simp, fun c hc => .inr (List.eq_of_mem_replicate hc)⟩
    have := wGo_rep st.length [] st.length (Nat.le_refl _)
    rw [List.append_nil] at this
    rw [this]
    simp [wGo]
  | cons n t ih =>
    intro st out hs ht
    obtain ⟨j, s, h1, h2, h3⟩ := popG_form n st out
    obtain ⟨r, g1, g2, g3, g4⟩ := ih (n :: s) (out ++ List.replicate j 79 ++ [73]) (by
      intro x hx
      rcases List.mem_cons.1 hx with hx | hx
      · rw [hx]; exact ht n (by simp)
      · exact hs x (h3 x hx)) (fun x hx => ht x (by simp [hx]))
    refine ⟨List.replicate j 79 ++ 73 :: r, ?_, ?_, ?_, ?_⟩
    · rw [impl_sweepWord.goG, h1, g1]; simp
    · rw [wGo_rep j _ st.length (by omega), wGo_in]
      have e : ((st.length - j : Nat) : Int) + 1 = ((n :: s).length : Int) := by simp; omega
      rw [e]; exact g2
    · simp at g3 ⊢; omega
    · intro c hc
      rcases List.mem_append.1 hc with hc | hc
      · exact .inr (List.eq_of_mem_replicate hc)
      · rcases List.mem_cons.1 hc with hc | hc
        · exact .inl hc
        · exact g4 c hc
def swW (l : List Int) : ByteArray := strOfNums (impl_sweepWord.goG l [] [])
theorem swW_ok {l : List Int} (h : isOrd l = true) : bytesOf (swW l) = impl_sweepWord.goG l [] [] ∧ wGo (bytesOf (swW l)) 0 = true ∧ (swW l).size = 2 * l.length := by
  obtain ⟨r, g1, g2, g3, g4⟩ := goG_word l [] [] (by simp) (ord_small h)
  rw [List.nil_append] at g1
  have hb : bytesOf (swW l) = impl_sweepWord.goG l [] [] := by
    unfold swW
    refine bytes_str (fun x hx => ?_)
    rw [g1] at hx
    rcases g4 x hx with h | h <;> omega
  refine ⟨hb, ?_, ?_⟩
  · rw [hb, g1]; exact g2
  · unfold swW; rw [str_size, g1, g3]; simp
def sweepL (l : List Int) : List Int := runL l (bytesOf (swW l))
theorem sweepL_length {l : List Int} (h : isOrd l = true) : (sweepL l).length ≤ 14 := by
  obtain ⟨h1, h2, h3⟩ := swW_ok h
  have := runGo_length (bytesOf (swW l)) l [] []
  rw [bytes_len, h3] at this
  have h7 := (ord_len h).2
  unfold sweepL runL; simp at this; omega

theorem impl_sweep_ev (l : List Int) (h : isOrd l = true) : Ev (fun k => impl_sweep.f k l) (sweepL l) := by
  unfold impl_sweep.f
  obtain ⟨h1, h2, h3⟩ := swW_ok h
  exact ev_bind (impl_sweepword_ev l h) (ev_bind (impl_run_ev l (swW l) (ord_len h).2 h2 h3) (ev_now rfl))

/-! ### slices.IsSorted -/
theorem less_ev (a b : Int) : Ev (fun _ => cmp_Less_int.f a b) (decide (a < b)) := ev_const (by simp [cmp_Less_int.f, cmp_isNaN_int.f])
theorem sorted_l (l : List Int) (hl : l.length ≤ 1000) : ∀ (p suf : List Int), l = p.reverse ++ suf → p ≠ [] → Ev (fun k => slices_IsSorted_int_int.l0 k l ((p.length : Int) - 1)) (srtR p) := by
  intro p
  induction p with
  | nil => intro suf e hp; exact absurd rfl hp
  | cons a p ih =>
    intro suf e _
    have hll : l.length = p.length + 1 + suf.length := by rw [e]; simp; omega
    have em : l = p.reverse ++ a :: suf := by rw [e]; simp
    have ra : rd l (p.length : Int) = a := by have := rd_mid' em; simpa using this
    have e1 : (((a :: p).length : Nat) : Int) - 1 = (p.length : Int) := by simp
    rw [e1]
    refine ev_succ ?_
    simp only [slices_IsSorted_int_int.l0.eq_2, ra]
    cases p with
    | nil => exact ev_neg (by simp) (ev_now (by simp [srtR]))
    | cons b t =>
      have em2 : l = t.reverse ++ b :: (a :: suf) := by rw [em]; simp
      have rb : rd l (t.length : Int) = b := by have := rd_mid' em2; simpa using this
      rw [wrap_of (by omega) (by omega), show (((b :: t).length : Nat) : Int) - 1 = (t.length : Int) by simp, rb]
      have hlb : ((b :: t).length : Int) = (t.length : Int) + 1 := by simp
      refine ev_pos (by omega) (ev_pos (by omega) (ev_pos (by omega) (ev_pos (by omega) (ev_pos (by omega) (ev_bind (less_ev a b) ?_)))))
      by_cases h : a < b
      · exact ev_pos (by simpa using h) (ev_now (by simp [srtR, h]))
      · refine ev_neg (by simpa using h) (ev_eq ?_ (show srtR (b :: t) = srtR (a :: b :: t) by simp [srtR, h]))
        have := ih (a :: suf) em (by simp)
        rwa [show (((b :: t).length : Nat) : Int) - 1 = (t.length : Int) by simp] at this
theorem isSorted_ev (l : List Int) (hl : l.length ≤ 1000) : Ev (fun k => impl_isSorted.f k l) (srtR l.reverse) := by
  unfold impl_isSorted.f slices_IsSorted_int_int.f
  rw [wrap_of (by omega) (by omega)]
  refine ev_bind (a := srtR l.reverse) ?_ (ev_now rfl)
  cases hl2 : l.reverse with
  | nil =>
    have : l = [] := by simpa using hl2
    subst this
    refine ev_succ ?_
    simp only [slices_IsSorted_int_int.l0.eq_2]
    exact ev_neg (by simp) (ev_now (by simp [srtR]))
  | cons a t =>
    have e : l = (a :: t).reverse ++ [] := by rw [← hl2]; simp
    have := sorted_l l hl (a :: t) [] e (by simp)
    rwa [show ((a :: t).length : Int) = (l.length : Int) by rw [← hl2]; simp] at this

/-! ### the word by which numbers come out of others -/
theorem toGo_nil (m : Nat) (o s out : List Int) : toGo m [] o s out = (out, true) := by cases m <;> rfl
theorem toGo_pop (m : Nat) (n : Int) (t o s out : List Int) : toGo (m + 1) (n :: t) o (n :: s) out = toGo m t o s (out ++ [79]) := by
  simp [toGo]
theorem toGo_push0 (m : Nat) (n c : Int) (t o out : List Int) : toGo (m + 1) (n :: t) (c :: o) [] out = toGo m (n :: t) o [c] (out ++ [73]) := by
  simp [toGo]
theorem toGo_push (m : Nat) (n c x : Int) (t o s out : List Int) (h : x ≠ n) : toGo (m + 1) (n :: t) (c :: o) (x :: s) out = toGo m (n :: t) o (c :: x :: s) (out ++ [73]) := by
  simp [toGo, h]
theorem toGo_stop (m : Nat) (n x : Int) (t s out : List Int) (h : x ≠ n) : toGo (m + 1) (n :: t) [] (x :: s) out = ([], false) := by
  simp [toGo, h]
theorem spec_to_l (a b : List Int) (ha : a.length ≤ 7) (hb : b.length ≤ 7) : ∀ (m : Nat) (t o s out opre tpre : List Int), a = opre ++ o → b = tpre ++ t → o.length + t.length ≤ m → s.length + o.length = t.length → out.length + m ≤ 1000 →
    Ev (fun k => spec_l2To.l0 k a b (strOfNums out) s.reverse (opre.length : Int) (tpre.length : Int)) (strOfNums (toGo m t o s out).1, (toGo m t o s out).2) ∧
    (t ≠ [] → Ev (fun k => spec_l2To.l1 k a b (strOfNums out) s.reverse (opre.length : Int) (tpre.length : Int)) (strOfNums (toGo m t o s out).1, (toGo m t o s out).2)) := by
  intro m
  induction m with
  | zero =>
    intro t o s out opre tpre e1 e2 hm hs ho
    have ht : t = [] := List.length_eq_zero_iff.1 (by omega)
    subst ht
    have h2 := len_end e2
    refine ⟨?_, fun h => absurd rfl h⟩
    refine ev_succ ?_
    simp only [spec_l2To.l0.eq_2]
    exact ev_neg (by omega) (ev_now (by rw [toGo_nil]))
  | succ m ih =>
    intro t o s out opre tpre e1 e2 hm hs ho
    have key : t ≠ [] → Ev (fun k => spec_l2To.l1 k a b (strOfNums out) s.reverse (opre.length : Int) (tpre.length : Int)) (strOfNums (toGo (m + 1) t o s out).1, (toGo (m + 1) t o s out).2) := by
      intro hne
      obtain ⟨n, t, rfl⟩ : ∃ n t', t = n :: t' := by cases t with
        | nil => exact absurd rfl hne
        | cons n t' => exact ⟨n, t', rfl⟩
      have h2 := len_mid e2
      simp only [List.length_cons] at hm hs
      have hsz : (strOfNums out).size = out.length := str_size out
      refine ev_succ ?_
      simp only [spec_l2To.l1.eq_2, rd_mid' e2]
      cases o with
      | cons c o =>
        have h1 := len_mid e1
        simp only [List.length_cons] at hm hs
        rw [rd_mid' e1, wrap_snoc (pre := opre) (c := c) (by omega), wrap_snoc (pre := tpre) (c := n) (by omega), str_snocI, str_snocO]
        refine ev_pos (by omega) ?_
        cases s with
        | nil =>
          refine ev_pos (by simp) (ev_pos (by omega) (ev_pos (by simp) (ev_pos (by omega) ?_)))
          rw [toGo_push0]
          exact (ih (n :: t) o [c] (out ++ [73]) (opre ++ [c]) tpre (snoc_mid e1) e2 (by simp; omega) (by simp at hs ⊢; omega) (by simp; omega)).2 (by simp)
        | cons x s =>
          simp only [List.length_cons] at hs
          have hl : ((x :: s).reverse.length : Int) = (s.length : Int) + 1 := by simp
          rw [wrap_of (x := ((x :: s).reverse.length : Int) - 1) (by omega) (by omega), top_rev, pop_rev]
          refine ev_neg (by omega) (ev_pos (by omega) (ev_pos (by omega) (ev_pos (by omega) (ev_pos (by omega) ?_))))
          by_cases hx : x = n
          · subst hx
            refine ev_pos rfl (ev_pos (by omega) (ev_pos (by omega) ?_))
            rw [toGo_pop]
            exact (ih t (c :: o) s (out ++ [79]) opre (tpre ++ [x]) e1 (snoc_mid e2) (by simp; omega) (by simp; omega) (by simp; omega)).1
          · refine ev_neg hx (ev_pos (by omega) (ev_pos (by simp; omega) (ev_pos (by omega) ?_)))
            rw [toGo_push _ _ _ _ _ _ _ _ hx]
            have := (ih (n :: t) o (c :: x :: s) (out ++ [73]) (opre ++ [c]) tpre (snoc_mid e1) e2 (by simp; omega) (by simp; omega) (by simp; omega)).2 (by simp)
            simpa using this
      | nil =>
        have h1 := len_end e1
        cases s with
        | nil => simp at hs
        | cons x s =>
          simp only [List.length_cons, List.length_nil] at hs
          have hl : ((x :: s).reverse.length : Int) = (s.length : Int) + 1 := by simp
          rw [wrap_of (x := ((x :: s).reverse.length : Int) - 1) (by omega) (by omega), top_rev, pop_rev, wrap_snoc (pre := tpre) (c := n) (by omega), str_snocO]
          refine ev_neg (by omega) (ev_pos (by omega) (ev_pos (by omega) (ev_pos (by omega) (ev_pos (by omega) ?_))))
          by_cases hx : x = n
          · subst hx
            refine ev_pos rfl (ev_pos (by omega) (ev_pos (by omega) ?_))
            rw [toGo_pop]
            exact (ih t [] s (out ++ [79]) opre (tpre ++ [x]) e1 (snoc_mid e2) (by simp; omega) (by simp; omega) (by simp; omega)).1
          · rw [toGo_stop _ _ _ _ _ _ hx]
            exact ev_neg hx (ev_now (by simp [str_nil]))
    refine ⟨?_, key⟩
    cases t with
    | nil =>
      have h2 := len_end e2
      refine ev_succ ?_
      simp only [spec_l2To.l0.eq_2]
      exact ev_neg (by omega) (ev_now (by rw [toGo_nil]))
    | cons n t =>
      have h2 := len_mid e2
      refine ev_succ ?_
      simp only [spec_l2To.l0.eq_2]
      exact ev_pos (by omega) (key (by simp))
theorem spec_to_ev (a b : List Int) (ha : a.length ≤ 7) (h : a.length = b.length) : Ev (fun k => spec_l2To.f k a b) (toW a b) := by
  unfold spec_l2To.f toW toL
  have := (spec_to_l a b ha (by omega) (a.length + b.length) b a [] [] [] [] rfl rfl (by omega) (by simp; omega) (by simp; omega)).1
  simpa [str_nil] using this

theorem spec_sorted_tab : ∀ i : Fin 8, spec_l2Sorted.f 20 ((i.val : Nat) : Int) = some (iota 1 i.val) := by decide +kernel
theorem spec_sorted_ev (n : Nat) (h : n ≤ 7) : Ev (fun k => spec_l2Sorted.f k (n : Int)) (iota 1 n) := Ev.of (fun k => spec_l2Sorted.mono _ k) (spec_sorted_tab ⟨n, by omega⟩)

def okB (l : List Int) : Bool := (toL l (iota 1 l.length)).2 == srtR (runGo (impl_sweepWord.goG l [] []) l [] []).reverse
theorem ok1 : (ordsN 1).all okB = true := by decide +kernel
theorem ok2 : (ordsN 2).all okB = true := by decide +kernel
theorem ok3 : (ordsN 3).all okB = true := by decide +kernel
theorem ok4 : (ordsN 4).all okB = true := by decide +kernel
theorem ok5 : (ordsN 5).all okB = true := by decide +kernel
theorem ok6 : (ordsN 6).all okB = true := by decide +kernel
theorem ok7 : (ordsN 7).all okB = true := by decide +kernel
theorem ok {l : List Int} (h : isOrd l = true) : (toL l (iota 1 l.length)).2 = srtR (sweepL l).reverse := by
  have := ord_all okB ok1 ok2 ok3 ok4 ok5 ok6 ok7 h
  unfold sweepL runL
  rw [(swW_ok h).1]
  simpa [okB] using this
def isR (a : List Int) : Bool × Bool := onOrd a false (srtR (sweepL a).reverse)
theorem spec_ev (a : List Int) (ha : a.length ≤ 140737488351232) : Ev (fun k => spec_IsSortable.f k a) (isR a) := by
  unfold spec_IsSortable.f isR
  by_cases h1 : isOrd a = true
  · rw [onOrd_pos h1]
    refine ev_bind (spec_order_ev a ha) (ev_pos h1 (ev_bind (a := toW a (iota 1 a.length)) ?_ (ev_now (by rw [← ok h1]; rfl))))
    unfold spec_l4Sortable.f
    exact ev_bind (spec_sorted_ev _ (ord_len h1).2) (ev_bind (spec_to_ev a _ (ord_len h1).2 (by rw [iota_length])) (ev_now rfl))
  · rw [onOrd_neg h1]; exact ev_bind (spec_order_ev a ha) (ev_neg h1 (ev_now rfl))
theorem impl_ev (a : List Int) (ha : a.length ≤ 140737488351232) : Ev (fun k => impl_IsSortable.f k a) (isR a) := by
  unfold impl_IsSortable.f isR
  by_cases h1 : isOrd a = true
  · rw [onOrd_pos h1]
    refine ev_bind (impl_order_ev a ha) (ev_pos h1 (ev_bind (a := srtR (sweepL a).reverse) ?_ (ev_now rfl)))
    unfold impl_isSortable.f
    exact ev_bind (impl_sweep_ev a h1) (ev_bind (isSorted_ev _ (Nat.le_trans (sweepL_length h1) (by decide))) (ev_now rfl))
  · rw [onOrd_neg h1]; exact ev_bind (impl_order_ev a ha) (ev_neg h1 (ev_now rfl))
theorem FnExactIsSortable : laws_FnExactIsSortable.Pure := by
  intro l hm hl hw
  apply Ev.rounds (r := true)
  have hs := spec_ev l (len_max hl)
  have hi := impl_ev l (len_max hl)
  unfold laws_FnExactIsSortable.f
  by_cases h1 : (l.length : Int) > 1048576
  · exact ev_pos h1 (ev_now rfl)
  refine ev_neg h1 (ev_bind (toInt_ev l hl) (ev_bind hs (ev_bind (toInt_ev l hl) (ev_bind hi (ev_neg (by simp) ?_)))))
  refine ev_succ ?_
  simp only [laws_FnExactIsSortable.j0.eq_2]
  exact ev_neg (by simp) (ev_bind (toInt_ev l hl) (ev_bind (eqInt_ev l l hl) (ev_pos (by simp) (ev_now rfl))))
end Go.Proofs.Ytdiecblalplalaa.Pure
