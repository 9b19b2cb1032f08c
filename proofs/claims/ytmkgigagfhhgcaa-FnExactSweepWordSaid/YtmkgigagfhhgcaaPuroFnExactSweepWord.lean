/- The pure statement of FnExactSweepWord: program and reference tell the same word. No condition. -/
import Derived.Test.YtmkgigagfhhgcaaMFnExactSweepWordx4
import Derived.Test.YtmkgigagfhhgcaaBase
import Derived.Test.YtmkgigagfhhgcaaBaseW
import Derived.Test.YtmkgigagfhhgcaaBaseR
namespace Go.Proofs.Ytmkgigagfhhgcaa.Pure
open Go Go.RowKit Go.Proofs.Ytmkgigagfhhgcaa.MFnExactSweepWord Go.Proofs.YtmkgigagfhhgcaaW.PrintWords Go.Proofs.Ytmkgigagfhhgcaa.Base
set_option linter.unusedVariables false
set_option linter.unusedSimpArgs false
/-! ### laws.toIntS, laws.eqIntS -/
theorem toInt_l (l : List Int) (hl : l.length * 8 ≤ 140737488351232) : ∀ (suf pre : List Int), l = pre ++ suf → Ev (fun k => laws_toIntS.l0 k l (pre ++ List.replicate suf.length 0) (pre.length : Int)) l := by
  intro suf
  induction suf with
  | nil =>
    intro pre e
    have h := len_end e
    refine ev_succ ?_
    simp only [laws_toIntS.l0.eq_2]
    refine ev_neg (by omega) ?_
    exact ev_now (by rw [e]; simp)
  | cons c suf ih =>
    intro pre e
    have h := len_mid e
    refine ev_succ ?_
    simp only [laws_toIntS.l0.eq_2, rd_mid' e]
    refine ev_pos (by omega) (ev_pos (by omega) (ev_pos (by simp; omega) ?_))
    rw [wrap_snoc (pre := pre) (c := c) (by omega)]
    have e2 : (pre ++ List.replicate (c :: suf).length 0).set ((pre.length : Int)).toNat c = (pre ++ [c]) ++ List.replicate suf.length 0 := by
      simp [List.replicate_succ]
    rw [e2]
    exact ih _ (snoc_mid e)
theorem toInt_ev (l : List Int) (hl : l.length * 8 ≤ 140737488351232) : Ev (fun k => laws_toIntS.f k l) l := by
  unfold laws_toIntS.f
  refine ev_pos (by omega) (ev_pos (by omega) ?_)
  have := toInt_l l hl l [] rfl
  simpa using this

theorem eqInt_l (a b : List Int) (hl : a.length * 8 ≤ 140737488351232) : ∀ (s t pre q : List Int), a = pre ++ s → b = q ++ t → pre.length = q.length → s.length = t.length → Ev (fun k => laws_eqIntS.l0 k a b (pre.length : Int)) (decide (s = t)) := by
  intro s
  induction s with
  | nil =>
    intro t pre q e e' h1 h2
    have h := len_end e
    obtain rfl : t = [] := by cases t with
      | nil => rfl
      | cons _ _ => simp at h2
    refine ev_succ ?_
    simp only [laws_eqIntS.l0.eq_2]
    refine ev_neg (by omega) ?_
    exact ev_now (by simp)
  | cons c s ih =>
    intro t pre q e e' h1 h2
    cases t with
    | nil => simp at h2
    | cons d t =>
    have h := len_mid e
    have h' := len_mid e'
    refine ev_succ ?_
    have r1 := rd_mid' e
    have r2 := rd_mid' e'
    rw [← h1] at r2
    simp only [laws_eqIntS.l0.eq_2, r1, r2]
    refine ev_pos (by omega) (ev_pos (by omega) (ev_pos (by omega) ?_))
    by_cases hc : c = d
    · refine ev_pos hc ?_
      rw [wrap_snoc (pre := pre) (c := c) (by omega)]
      refine ev_eq (ih t (pre ++ [c]) (q ++ [d]) (snoc_mid e) (snoc_mid e') (by simp [h1]) (by simpa using h2)) ?_
      simp [hc]
    · refine ev_neg hc (ev_now ?_)
      simp [hc]
theorem eqInt_ev (a b : List Int) (hl : a.length * 8 ≤ 140737488351232) : Ev (fun k => laws_eqIntS.f k a b) (decide (a = b)) := by
  unfold laws_eqIntS.f
  by_cases h : a.length = b.length
  · refine ev_pos (by omega) ?_
    exact eqInt_l a b hl a b [] [] rfl rfl rfl h
  · refine ev_neg (by omega) (ev_now ?_)
    symm
    exact decide_eq_false (fun e => h (by rw [e]))

/-! ### Is it an order? -/
theorem in_ev (a b c : Int) : Ev (fun _ => spec_l1In.f a b c) (decide (b ≤ a) && decide (a ≤ c)) := by
  unfold spec_l1In.f
  by_cases h : a ≥ b
  · refine ev_pos h (ev_now ?_)
    have : decide (b ≤ a) = true := decide_eq_true h
    rw [this]; rfl
  · refine ev_neg h (ev_now ?_)
    have : decide (b ≤ a) = false := decide_eq_false (by omega)
    rw [this]; rfl

theorem has_l (l : List Int) (x : Int) (hl : l.length ≤ 140737488351232) : ∀ (suf pre : List Int), l = pre ++ suf → Ev (fun k => spec_l1Has.l0 k l x (pre.length : Int)) (decide (x ∈ suf)) := by
  intro suf
  induction suf with
  | nil =>
    intro pre e
    have h := len_end e
    refine ev_succ ?_
    simp only [spec_l1Has.l0.eq_2]
    refine ev_neg (by omega) ?_
    exact ev_now (by simp)
  | cons c suf ih =>
    intro pre e
    have h := len_mid e
    refine ev_succ ?_
    simp only [spec_l1Has.l0.eq_2, rd_mid' e]
    refine ev_pos (by omega) (ev_pos (by omega) ?_)
    by_cases hc : c = x
    · exact ev_pos hc (ev_now (by simp [hc]))
    · refine ev_neg hc ?_
      rw [wrap_snoc (pre := pre) (c := c) (by omega)]
      refine ev_eq (ih _ (snoc_mid e)) ?_
      have : x ≠ c := fun h => hc h.symm
      simp [this]
theorem has_ev (l : List Int) (x : Int) (hl : l.length ≤ 140737488351232) : Ev (fun k => spec_l1Has.f k l x) (decide (x ∈ l)) := by
  unfold spec_l1Has.f
  exact has_l l x hl l [] rfl
theorem idx_l (l : List Int) (x : Int) (hl : l.length ≤ 140737488351232) : ∀ (suf pre : List Int), l = pre ++ suf → Ev (fun k => slices_Index_int_int.l0 k l x (l.length : Int) (pre.length : Int)) (if x ∈ suf then ((pre.length + suf.idxOf x : Nat) : Int) else -1) := by
  intro suf
  induction suf with
  | nil =>
    intro pre e
    have h := len_end e
    refine ev_succ ?_
    simp only [slices_Index_int_int.l0.eq_2]
    refine ev_neg (by omega) ?_
    exact ev_now (by simp)
  | cons c suf ih =>
    intro pre e
    have h := len_mid e
    refine ev_succ ?_
    simp only [slices_Index_int_int.l0.eq_2, rd_mid' e]
    refine ev_pos (by omega) (ev_pos (by omega) (ev_pos (by omega) ?_))
    by_cases hc : x = c
    · exact ev_pos hc (ev_now (by simp [hc]))
    · refine ev_neg hc ?_
      rw [wrap_snoc (pre := pre) (c := c) (by omega)]
      refine ev_eq (ih _ (snoc_mid e)) ?_
      have hc' : ¬ c = x := fun h => hc h.symm
      have hb : (c == x) = false := by simpa using hc'
      simp only [List.mem_cons, hc, false_or, List.idxOf_cons, hb, cond_false]
      by_cases hm : x ∈ suf
      · rw [if_pos hm, if_pos hm]; simp; omega
      · rw [if_neg hm, if_neg hm]
theorem idx_ev (l : List Int) (x : Int) (hl : l.length ≤ 140737488351232) : Ev (fun k => slices_Index_int_int.f k l x) (if x ∈ l then ((l.idxOf x : Nat) : Int) else -1) := by
  unfold slices_Index_int_int.f
  simpa using idx_l l x hl l [] rfl
theorem contains_ev (l : List Int) (x : Int) (hl : l.length ≤ 140737488351232) : Ev (fun k => slices_Contains_int_int.f k l x) (decide (x ∈ l)) := by
  unfold slices_Contains_int_int.f
  refine ev_bind (idx_ev l x hl) (ev_now ?_)
  by_cases h : x ∈ l
  · simp [h]
  · simp [h]

theorem spec_order_l (l : List Int) (hl : l.length ≤ 140737488351232) : ∀ (suf pre : List Int), l = pre ++ suf → Ev (fun k => spec_l2Order.l0 k l (pre.length : Int)) (ordGo (l.length : Int) pre suf) := by
  intro suf
  induction suf with
  | nil =>
    intro pre e
    have h := len_end e
    refine ev_succ ?_
    simp only [spec_l2Order.l0.eq_2]
    refine ev_neg (by omega) ?_
    exact ev_now rfl
  | cons c suf ih =>
    intro pre e
    have h := len_mid e
    refine ev_succ ?_
    simp only [spec_l2Order.l0.eq_2, rd_mid' e, take_mid e]
    refine ev_pos (by omega) (ev_pos (by omega) (ev_bind (in_ev _ _ _) ?_))
    by_cases hr : 1 ≤ c ∧ c ≤ (l.length : Int)
    · refine ev_pos (by simp [hr.1, hr.2]) (ev_pos (by omega) (ev_bind (has_ev pre c (by omega)) ?_))
      by_cases hc : c ∈ pre
      · exact ev_pos (by simp [hc]) (ev_now (by simp [ordGo, hc]))
      · refine ev_neg (by simp [hc]) ?_
        rw [wrap_snoc (pre := pre) (c := c) (by omega)]
        refine ev_eq (ih _ (snoc_mid e)) ?_
        simp [ordGo, hr.1, hr.2, hc]
    · refine ev_neg (by simp; omega) (ev_now ?_)
      simp only [ordGo]
      rw [if_neg (fun h => hr ⟨h.1, h.2.1⟩)]
theorem spec_order_ev (l : List Int) (hl : l.length ≤ 140737488351232) : Ev (fun k => spec_l2Order.f k l) (isOrd l) := by
  unfold spec_l2Order.f
  refine ev_bind (in_ev _ _ _) ?_
  unfold isOrd
  by_cases h : 1 ≤ l.length ∧ l.length ≤ 7
  · refine ev_pos (by simp; omega) ?_
    rw [if_pos h]
    exact spec_order_l l hl l [] rfl
  · refine ev_neg (by simp; omega) (ev_now ?_)
    rw [if_neg h]
theorem impl_order_l (l : List Int) (hl : l.length ≤ 140737488351232) : ∀ (suf pre : List Int), l = pre ++ suf → Ev (fun k => impl_isOrder.l0 k l l (l.length : Int) (pre.length : Int)) (ordGo (l.length : Int) pre suf) := by
  intro suf
  induction suf with
  | nil =>
    intro pre e
    have h := len_end e
    refine ev_succ ?_
    simp only [impl_isOrder.l0.eq_2]
    refine ev_neg (by omega) ?_
    exact ev_now rfl
  | cons c suf ih =>
    intro pre e
    have h := len_mid e
    refine ev_succ ?_
    simp only [impl_isOrder.l0.eq_2, rd_mid' e, take_mid e]
    refine ev_pos (by omega) (ev_pos (by omega) (ev_pos (by omega) ?_))
    by_cases h1 : c < 1
    · exact ev_pos h1 (ev_now (by simp only [ordGo]; rw [if_neg (fun h => by omega)]))
    refine ev_neg h1 ?_
    by_cases h2 : c > (l.length : Int)
    · exact ev_pos h2 (ev_now (by simp only [ordGo]; rw [if_neg (fun h => by omega)]))
    refine ev_neg h2 (ev_pos (by omega) (ev_bind (contains_ev pre c (by omega)) ?_))
    by_cases hc : c ∈ pre
    · exact ev_pos (by simp [hc]) (ev_now (by simp [ordGo, hc]))
    · refine ev_neg (by simp [hc]) ?_
      rw [wrap_snoc (pre := pre) (c := c) (by omega)]
      refine ev_eq (ih _ (snoc_mid e)) ?_
      simp only [ordGo]
      rw [if_pos ⟨by omega, by omega, hc⟩]
theorem impl_order_ev (l : List Int) (hl : l.length ≤ 140737488351232) : Ev (fun k => impl_isOrder.f k l) (isOrd l) := by
  have key : ∀ b : Bool, Ev (fun k => impl_isOrder.j0 k l b) (if b = true then false else ordGo (l.length : Int) [] l) := by
    intro b
    refine ev_succ ?_
    simp only [impl_isOrder.j0.eq_2]
    cases b with
    | true => exact ev_pos rfl (ev_now rfl)
    | false => exact ev_neg (by simp) (impl_order_l l hl l [] rfl)
  unfold impl_isOrder.f isOrd
  by_cases h1 : (l.length : Int) < 1
  · refine ev_pos h1 (ev_eq (key true) ?_)
    rw [if_pos rfl, if_neg (fun h => by omega)]
  · refine ev_neg h1 (ev_eq (key _) ?_)
    by_cases h2 : (l.length : Int) > 7
    · rw [if_neg (c := 1 ≤ l.length ∧ l.length ≤ 7) (fun h => by omega), if_pos (decide_eq_true h2)]
    · rw [if_pos (c := 1 ≤ l.length ∧ l.length ≤ 7) ⟨by omega, by omega⟩, if_neg (by simp; omega)]

/-! ### the word of the sweep -/
theorem popG_sum (b : Int) : ∀ (st out : List Int), (impl_sweepWord.popG b st out).1.length + (impl_sweepWord.popG b st out).2.length = st.length + out.length := by
  intro st
  induction st with
  | nil => intro out; simp [impl_sweepWord.popG]
  | cons x s ih =>
    intro out
    simp only [impl_sweepWord.popG]
    split
    · rw [ih]; simp; omega
    · rfl
theorem popG_less (b : Int) : ∀ (st out : List Int), (impl_sweepWord.popG b st out).1.length ≤ st.length := by
  intro st
  induction st with
  | nil => intro out; simp [impl_sweepWord.popG]
  | cons x s ih =>
    intro out
    simp only [impl_sweepWord.popG]
    split
    · exact Nat.le_trans (ih _) (by simp)
    · exact Nat.le_refl _
theorem popG_mem (b : Int) : ∀ (st out : List Int), ∀ y ∈ (impl_sweepWord.popG b st out).1, y ∈ st := by
  intro st
  induction st with
  | nil => intro out y h; simp [impl_sweepWord.popG] at h
  | cons x s ih =>
    intro out y
    simp only [impl_sweepWord.popG]
    split
    · intro h; exact List.mem_cons_of_mem _ (ih _ y h)
    · exact fun h => h
theorem pop8 : ∀ (st out : List Int), (∀ x ∈ st, x < 8) → impl_sweepWord.popG 8 st out = ([], out ++ List.replicate st.length 79) := by
  intro st
  induction st with
  | nil => intro out _; simp [impl_sweepWord.popG]
  | cons x s ih =>
    intro out h
    rw [impl_sweepWord.popG, if_pos (h x (by simp)), ih _ (fun y hy => h y (by simp [hy]))]
    simp [List.replicate_succ]
theorem spec_sw_2 : ∀ (j : Nat) (st out : List Int) (i : Nat), st.length = i + j → out.length + j ≤ 100 → st.length ≤ 100 → Ev (fun k => spec_l4SweepWord.l2 k (strOfNums out) st.reverse (i : Int)) (strOfNums (out ++ List.replicate j 79)) := by
  intro j
  induction j with
  | zero =>
    intro st out i h ho hs
    refine ev_succ ?_
    simp only [spec_l4SweepWord.l2.eq_2]
    exact ev_neg (by simp; omega) (ev_now (by simp))
  | succ j ih =>
    intro st out i h ho hs
    have hsz : (strOfNums out).size = out.length := str_size out
    refine ev_succ ?_
    simp only [spec_l4SweepWord.l2.eq_2, str_snocO]
    rw [wrap_of (by omega) (by omega), show (i : Int) + 1 = ((i + 1 : Nat) : Int) by omega]
    refine ev_pos (by simp; omega) (ev_pos (by omega) (ev_eq (ih st (out ++ [79]) (i + 1) (by omega) (by simp; omega) hs) ?_))
    simp [List.replicate_succ]
theorem spec_sw_1 (l : List Int) (n : Int) (i : Nat) (hi : i < l.length) (hl : l.length ≤ 7) (hn : rd l (i : Int) = n) (R : ByteArray) : ∀ (st out : List Int), st.length + out.length ≤ 100 →
    Ev (fun k => spec_l4SweepWord.l0 k l (strOfNums ((impl_sweepWord.popG n st out).2 ++ [73])) (n :: (impl_sweepWord.popG n st out).1).reverse (wrap64 ((i : Int) + 1))) R →
    Ev (fun k => spec_l4SweepWord.l1 k l (strOfNums out) st.reverse (i : Int)) R := by
  intro st
  induction st with
  | nil =>
    intro out h hR
    have hsz : (strOfNums out).size = out.length := str_size out
    refine ev_succ ?_
    simp only [spec_l4SweepWord.l1.eq_2, hn, str_snocI]
    refine ev_neg (by simp) (ev_pos (by omega) (ev_pos (by omega) (ev_pos (by simp) (ev_pos (by simp at h; omega) ?_))))
    simpa [impl_sweepWord.popG] using hR
  | cons x s ih =>
    intro out h hR
    simp only [List.length_cons] at h
    have hsz : (strOfNums out).size = out.length := str_size out
    have hl2 : ((x :: s).reverse.length : Int) = (s.length : Int) + 1 := by simp
    refine ev_succ ?_
    simp only [spec_l4SweepWord.l1.eq_2, hn, str_snocI, str_snocO]
    rw [wrap_of (x := ((x :: s).reverse.length : Int) - 1) (by omega) (by omega), top_rev, pop_rev]
    refine ev_pos (by omega) (ev_pos (by omega) (ev_pos (by omega) (ev_pos (by omega) (ev_pos (by omega) ?_))))
    by_cases hx : x < n
    · rw [impl_sweepWord.popG, if_pos hx] at hR
      exact ev_pos hx (ev_pos (by omega) (ev_pos (by omega) (ih (out ++ [79]) (by simp; omega) hR)))
    · rw [impl_sweepWord.popG, if_neg hx] at hR
      exact ev_neg hx (ev_pos (by simp; omega) (ev_pos (by omega) (by simpa using hR)))
theorem spec_sw_0 (l : List Int) (hl : l.length ≤ 7) (h8 : ∀ x ∈ l, x < 8) : ∀ (suf pre st out : List Int), l = pre ++ suf → (∀ x ∈ st, x < 8) → st.length ≤ pre.length → st.length + out.length = 2 * pre.length →
    Ev (fun k => spec_l4SweepWord.l0 k l (strOfNums out) st.reverse (pre.length : Int)) (strOfNums (impl_sweepWord.goG suf st out)) := by
  intro suf
  induction suf with
  | nil =>
    intro pre st out e hs h1 h2
    have h := len_end e
    refine ev_succ ?_
    simp only [spec_l4SweepWord.l0.eq_2]
    refine ev_neg (by omega) (ev_eq (spec_sw_2 st.length st out 0 (by omega) (by omega) (by omega)) ?_)
    rw [impl_sweepWord.goG, pop8 _ _ hs]
  | cons c suf ih =>
    intro pre st out e hs h1 h2
    have h := len_mid e
    have hp1 := popG_sum c st out
    have hp2 := popG_less c st out
    refine ev_succ ?_
    simp only [spec_l4SweepWord.l0.eq_2]
    refine ev_pos (by omega) (spec_sw_1 l c pre.length (by omega) hl (rd_mid' e) _ st out (by omega) ?_)
    rw [wrap_snoc (pre := pre) (c := c) (by omega)]
    refine ev_eq (ih _ _ _ (snoc_mid e) ?_ (by simp; omega) (by simp; omega)) (by rw [impl_sweepWord.goG])
    intro x hx
    rcases List.mem_cons.1 hx with hx | hx
    · rw [hx]; exact h8 c (by rw [e]; simp)
    · exact hs x (popG_mem c st out x hx)
theorem ord_small {l : List Int} (h : isOrd l = true) : ∀ x ∈ l, x < 8 := fun x hx => by
  have := ord_range h x hx; have := (ord_len h).2; omega
theorem spec_sweepword_ev (l : List Int) (h : isOrd l = true) : Ev (fun k => spec_l4SweepWord.f k l) (strOfNums (impl_sweepWord.goG l [] [])) := by
  unfold spec_l4SweepWord.f
  have := spec_sw_0 l (ord_len h).2 (ord_small h) l [] [] [] rfl (by simp) (by simp) (by simp)
  simpa [str_nil] using this
theorem impl_sweepword_ev (l : List Int) (h : isOrd l = true) : Ev (fun _ => impl_sweepWord.f l) (strOfNums (impl_sweepWord.goG l [] [])) := by
  unfold impl_sweepWord.f
  have := (ord_len h).2
  exact ev_pos (by omega) (ev_now rfl)

def swR (a : List Int) : ByteArray × Bool := if isOrd a = true then (strOfNums (impl_sweepWord.goG a [] []), true) else ((⟨#[]⟩ : ByteArray), false)
theorem spec_ev (a : List Int) (ha : a.length ≤ 140737488351232) : Ev (fun k => spec_SweepWord.f k a) (swR a) := by
  unfold spec_SweepWord.f swR
  refine ev_bind (spec_order_ev a ha) ?_
  by_cases h1 : isOrd a = true
  · rw [if_pos h1]; exact ev_pos h1 (ev_bind (spec_sweepword_ev a h1) (ev_now rfl))
  · rw [if_neg h1]; exact ev_neg h1 (ev_now rfl)
theorem impl_ev (a : List Int) (ha : a.length ≤ 140737488351232) : Ev (fun k => impl_SweepWord.f k a) (swR a) := by
  unfold impl_SweepWord.f
  refine ev_bind (impl_order_ev a ha) ?_
  by_cases h1 : isOrd a = true
  · exact ev_pos h1 (ev_bind (impl_sweepword_ev a h1) (ev_now (by unfold swR; rw [if_pos h1])))
  · exact ev_neg h1 (ev_now (by unfold swR; rw [if_neg h1]))
theorem FnExactSweepWord : laws_FnExactSweepWord.Pure := by
  intro l hm hl hw
  apply Ev.rounds (r := true)
  have hs := spec_ev l (len_max hl)
  have hi := impl_ev l (len_max hl)
  unfold laws_FnExactSweepWord.f
  by_cases h1 : (l.length : Int) > 1048576
  · exact ev_pos h1 (ev_now rfl)
  refine ev_neg h1 (ev_bind (toInt_ev l hl) (ev_bind hs (ev_bind (toInt_ev l hl) (ev_bind hi (ev_pos rfl ?_)))))
  refine ev_succ ?_
  simp only [laws_FnExactSweepWord.j0.eq_2]
  exact ev_neg (by simp) (ev_bind (toInt_ev l hl) (ev_bind (eqInt_ev l l hl) (ev_pos (by simp) (ev_now rfl))))
end Go.Proofs.Ytmkgigagfhhgcaa.Pure
