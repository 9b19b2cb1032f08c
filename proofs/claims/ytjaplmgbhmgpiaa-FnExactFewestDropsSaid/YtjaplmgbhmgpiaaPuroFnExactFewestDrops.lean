/- The pure statement of FnExactFewestDrops: program and reference tell the same places. No condition. -/
import Derived.Test.YtjaplmgbhmgpiaaMFnExactFewestDropsx10
import Derived.Test.YtjaplmgbhmgpiaaBase
import Derived.Test.YtjaplmgbhmgpiaaBaseP
import Derived.Test.YtjaplmgbhmgpiaaBaseN
import Derived.Test.YtjaplmgbhmgpiaaBaseF
import Derived.Test.YtjaplmgbhmgpiaaBaseO
import Derived.Test.YtjaplmgbhmgpiaaBaseI
namespace Go.Proofs.Ytjaplmgbhmgpiaa.Pure
open Go Go.RowKit Go.Proofs.Ytjaplmgbhmgpiaa.MFnExactFewestDrops Go.Proofs.YtjaplmgbhmgpiaaW.PrintWords Go.Proofs.Ytjaplmgbhmgpiaa.Base
set_option linter.unusedVariables false
set_option linter.unusedSimpArgs false
/-! ### laws.toIntS, laws.eqIntS -/
theorem toInt_l (l : List Int) (hl : l.length * 8 ≤ 140737488351232) : ∀ (suf pre : List Int), l = pre ++ suf → Ev (fun k => laws_toIntS.l0 k l (pre ++ List.replicate suf.length 0) (pre.length : Int)) l := by
  intro suf
  induction suf with
  | nil =>
    intro pre e
    have h := len_end e
    refine ev_succ ?_
    simp only [laws_toIntS.l0.eq_2]
    refine ev_neg (by omega) ?_
    exact ev_now (by rw [e]; simp)
  | cons c suf ih =>
    intro pre e
    have h := len_mid e
    refine ev_succ ?_
    simp only [laws_toIntS.l0.eq_2, rd_mid' e]
    refine ev_pos (by omega) (ev_pos (by omega) (ev_pos (by simp; omega) ?_))
    rw [wrap_snoc (pre := pre) (c := c) (by omega)]
    have e2 : (pre ++ List.replicate (c :: suf).length 0).set ((pre.length : Int)).toNat c = (pre ++ [c]) ++ List.replicate suf.length 0 := by
      simp [List.replicate_succ]
    rw [e2]
    exact ih _ (snoc_mid e)
theorem toInt_ev (l : List Int) (hl : l.length * 8 ≤ 140737488351232) : Ev (fun k => laws_toIntS.f k l) l := by
  unfold laws_toIntS.f
  refine ev_pos (by omega) (ev_pos (by omega) ?_)
  have := toInt_l l hl l [] rfl
  simpa using this

theorem eqInt_l (a b : List Int) (hl : a.length * 8 ≤ 140737488351232) : ∀ (s t pre q : List Int), a = pre ++ s → b = q ++ t → pre.length = q.length → s.length = t.length → Ev (fun k => laws_eqIntS.l0 k a b (pre.length : Int)) (decide (s = t)) := by
  intro s
  induction s with
  | nil =>
    intro t pre q e e' h1 h2
    have h := len_end e
    obtain rfl : t = [] := by cases t with
      | nil => rfl
      | cons _ _ => simp at h2
    refine ev_succ ?_
    simp only [laws_eqIntS.l0.eq_2]
    refine ev_neg (by omega) ?_
    exact ev_now (by simp)
  | cons c s ih =>
    intro t pre q e e' h1 h2
    cases t with
    | nil => simp at h2
    | cons d t =>
    have h := len_mid e
    have h' := len_mid e'
    refine ev_succ ?_
    have r1 := rd_mid' e
    have r2 := rd_mid' e'
    rw [← h1] at r2
    simp only [laws_eqIntS.l0.eq_2, r1, r2]
    refine ev_pos (by omega) (ev_pos (by omega) (ev_pos (by omega) ?_))
    by_cases hc : c = d
    · refine ev_pos hc ?_
      rw [wrap_snoc (pre := pre) (c := c) (by omega)]
      refine ev_eq (ih t (pre ++ [c]) (q ++ [d]) (snoc_mid e) (snoc_mid e') (by simp [h1]) (by simpa using h2)) ?_
      simp [hc]
    · refine ev_neg hc (ev_now ?_)
      simp [hc]
theorem eqInt_ev (a b : List Int) (hl : a.length * 8 ≤ 140737488351232) : Ev (fun k => laws_eqIntS.f k a b) (decide (a = b)) := by
  unfold laws_eqIntS.f
  by_cases h : a.length = b.length
  · refine ev_pos (by omega) ?_
    exact eqInt_l a b hl a b [] [] rfl rfl rfl h
  · refine ev_neg (by omega) (ev_now ?_)
    symm
    exact decide_eq_false (fun e => h (by rw [e]))

theorem same_l (a b : List Int) (hl : a.length * 8 ≤ 140737488351232) : ∀ (s t pre q : List Int), a = pre ++ s → b = q ++ t → pre.length = q.length → s.length = t.length → Ev (fun k => spec_l1Same.l0 k a b (pre.length : Int)) (decide (s = t)) := by
  intro s
  induction s with
  | nil =>
    intro t pre q e e' h1 h2
    have h := len_end e
    obtain rfl : t = [] := by cases t with
      | nil => rfl
      | cons _ _ => simp at h2
    refine ev_succ ?_
    simp only [spec_l1Same.l0.eq_2]
    refine ev_neg (by omega) ?_
    exact ev_now (by simp)
  | cons c s ih =>
    intro t pre q e e' h1 h2
    cases t with
    | nil => simp at h2
    | cons d t =>
    have h := len_mid e
    have h' := len_mid e'
    refine ev_succ ?_
    have r1 := rd_mid' e
    have r2 := rd_mid' e'
    rw [← h1] at r2
    simp only [spec_l1Same.l0.eq_2, r1, r2]
    refine ev_pos (by omega) (ev_pos (by omega) (ev_pos (by omega) ?_))
    by_cases hc : c = d
    · refine ev_pos hc ?_
      rw [wrap_snoc (pre := pre) (c := c) (by omega)]
      refine ev_eq (ih t (pre ++ [c]) (q ++ [d]) (snoc_mid e) (snoc_mid e') (by simp [h1]) (by simpa using h2)) ?_
      simp [hc]
    · refine ev_neg hc (ev_now ?_)
      simp [hc]
theorem same_ev (a b : List Int) (hl : a.length * 8 ≤ 140737488351232) : Ev (fun k => spec_l1Same.f k a b) (decide (a = b)) := by
  unfold spec_l1Same.f
  by_cases h : a.length = b.length
  · refine ev_pos (by omega) ?_
    exact same_l a b hl a b [] [] rfl rfl rfl h
  · refine ev_neg (by omega) (ev_now ?_)
    symm
    exact decide_eq_false (fun e => h (by rw [e]))

/-! ### Is it an order? -/
theorem in_ev (a b c : Int) : Ev (fun _ => spec_l1In.f a b c) (decide (b ≤ a) && decide (a ≤ c)) := by
  unfold spec_l1In.f
  by_cases h : a ≥ b
  · refine ev_pos h (ev_now ?_)
    have : decide (b ≤ a) = true := decide_eq_true h
    rw [this]; rfl
  · refine ev_neg h (ev_now ?_)
    have : decide (b ≤ a) = false := decide_eq_false (by omega)
    rw [this]; rfl

theorem has_l (l : List Int) (x : Int) (hl : l.length ≤ 140737488351232) : ∀ (suf pre : List Int), l = pre ++ suf → Ev (fun k => spec_l1Has.l0 k l x (pre.length : Int)) (decide (x ∈ suf)) := by
  intro suf
  induction suf with
  | nil =>
    intro pre e
    have h := len_end e
    refine ev_succ ?_
    simp only [spec_l1Has.l0.eq_2]
    refine ev_neg (by omega) ?_
    exact ev_now (by simp)
  | cons c suf ih =>
    intro pre e
    have h := len_mid e
    refine ev_succ ?_
    simp only [spec_l1Has.l0.eq_2, rd_mid' e]
    refine ev_pos (by omega) (ev_pos (by omega) ?_)
    by_cases hc : c = x
    · exact ev_pos hc (ev_now (by simp [hc]))
    · refine ev_neg hc ?_
      rw [wrap_snoc (pre := pre) (c := c) (by omega)]
      refine ev_eq (ih _ (snoc_mid e)) ?_
      have : x ≠ c := fun h => hc h.symm
      simp [this]
theorem has_ev (l : List Int) (x : Int) (hl : l.length ≤ 140737488351232) : Ev (fun k => spec_l1Has.f k l x) (decide (x ∈ l)) := by
  unfold spec_l1Has.f
  exact has_l l x hl l [] rfl
theorem idx_l (l : List Int) (x : Int) (hl : l.length ≤ 140737488351232) : ∀ (suf pre : List Int), l = pre ++ suf → Ev (fun k => slices_Index_int_int.l0 k l x (l.length : Int) (pre.length : Int)) (if x ∈ suf then ((pre.length + suf.idxOf x : Nat) : Int) else -1) := by
  intro suf
  induction suf with
  | nil =>
    intro pre e
    have h := len_end e
    refine ev_succ ?_
    simp only [slices_Index_int_int.l0.eq_2]
    refine ev_neg (by omega) ?_
    exact ev_now (by simp)
  | cons c suf ih =>
    intro pre e
    have h := len_mid e
    refine ev_succ ?_
    simp only [slices_Index_int_int.l0.eq_2, rd_mid' e]
    refine ev_pos (by omega) (ev_pos (by omega) (ev_pos (by omega) ?_))
    by_cases hc : x = c
    · exact ev_pos hc (ev_now (by simp [hc]))
    · refine ev_neg hc ?_
      rw [wrap_snoc (pre := pre) (c := c) (by omega)]
      refine ev_eq (ih _ (snoc_mid e)) ?_
      have hc' : ¬ c = x := fun h => hc h.symm
      have hb : (c == x) = false := by simpa using hc'
      simp only [List.mem_cons, hc, false_or, List.idxOf_cons, hb, cond_false]
      by_cases hm : x ∈ suf
      · rw [if_pos hm, if_pos hm]; simp; omega
      · rw [if_neg hm, if_neg hm]
theorem idx_ev (l : List Int) (x : Int) (hl : l.length ≤ 140737488351232) : Ev (fun k => slices_Index_int_int.f k l x) (if x ∈ l then ((l.idxOf x : Nat) : Int) else -1) := by
  unfold slices_Index_int_int.f
  simpa using idx_l l x hl l [] rfl
theorem contains_ev (l : List Int) (x : Int) (hl : l.length ≤ 140737488351232) : Ev (fun k => slices_Contains_int_int.f k l x) (decide (x ∈ l)) := by
  unfold slices_Contains_int_int.f
  refine ev_bind (idx_ev l x hl) (ev_now ?_)
  by_cases h : x ∈ l
  · simp [h]
  · simp [h]


theorem spec_order_l (l : List Int) (hl : l.length ≤ 140737488351232) : ∀ (suf pre : List Int), l = pre ++ suf → Ev (fun k => spec_l2Order.l0 k l (pre.length : Int)) (ordGo (l.length : Int) pre suf) := by
  intro suf
  induction suf with
  | nil =>
    intro pre e
    have h := len_end e
    refine ev_succ ?_
    simp only [spec_l2Order.l0.eq_2]
    refine ev_neg (by omega) ?_
    exact ev_now rfl
  | cons c suf ih =>
    intro pre e
    have h := len_mid e
    refine ev_succ ?_
    simp only [spec_l2Order.l0.eq_2, rd_mid' e, take_mid e]
    refine ev_pos (by omega) (ev_pos (by omega) (ev_bind (in_ev _ _ _) ?_))
    by_cases hr : 1 ≤ c ∧ c ≤ (l.length : Int)
    · refine ev_pos (by simp [hr.1, hr.2]) (ev_pos (by omega) (ev_bind (has_ev pre c (by omega)) ?_))
      by_cases hc : c ∈ pre
      · exact ev_pos (by simp [hc]) (ev_now (by simp [ordGo, hc]))
      · refine ev_neg (by simp [hc]) ?_
        rw [wrap_snoc (pre := pre) (c := c) (by omega)]
        refine ev_eq (ih _ (snoc_mid e)) ?_
        simp [ordGo, hr.1, hr.2, hc]
    · refine ev_neg (by simp; omega) (ev_now ?_)
      simp only [ordGo]
      rw [if_neg (fun h => hr ⟨h.1, h.2.1⟩)]
theorem spec_order_ev (l : List Int) (hl : l.length ≤ 140737488351232) : Ev (fun k => spec_l2Order.f k l) (isOrd l) := by
  unfold spec_l2Order.f
  refine ev_bind (in_ev _ _ _) ?_
  unfold isOrd
  by_cases h : 1 ≤ l.length ∧ l.length ≤ 7
  · refine ev_pos (by simp; omega) ?_
    rw [if_pos h]
    exact spec_order_l l hl l [] rfl
  · refine ev_neg (by simp; omega) (ev_now ?_)
    rw [if_neg h]
theorem impl_order_l (l : List Int) (hl : l.length ≤ 140737488351232) : ∀ (suf pre : List Int), l = pre ++ suf → Ev (fun k => impl_isOrder.l0 k l l (l.length : Int) (pre.length : Int)) (ordGo (l.length : Int) pre suf) := by
  intro suf
  induction suf with
  | nil =>
    intro pre e
    have h := len_end e
    refine ev_succ ?_
    simp only [impl_isOrder.l0.eq_2]
    refine ev_neg (by omega) ?_
    exact ev_now rfl
  | cons c suf ih =>
    intro pre e
    have h := len_mid e
    refine ev_succ ?_
    simp only [impl_isOrder.l0.eq_2, rd_mid' e, take_mid e]
    refine ev_pos (by omega) (ev_pos (by omega) (ev_pos (by omega) ?_))
    by_cases h1 : c < 1
    · exact ev_pos h1 (ev_now (by simp only [ordGo]; rw [if_neg (fun h => by omega)]))
    refine ev_neg h1 ?_
    by_cases h2 : c > (l.length : Int)
    · exact ev_pos h2 (ev_now (by simp only [ordGo]; rw [if_neg (fun h => by omega)]))
    refine ev_neg h2 (ev_pos (by omega) (ev_bind (contains_ev pre c (by omega)) ?_))
    by_cases hc : c ∈ pre
    · exact ev_pos (by simp [hc]) (ev_now (by simp [ordGo, hc]))
    · refine ev_neg (by simp [hc]) ?_
      rw [wrap_snoc (pre := pre) (c := c) (by omega)]
      refine ev_eq (ih _ (snoc_mid e)) ?_
      simp only [ordGo]
      rw [if_pos ⟨by omega, by omega, hc⟩]
theorem impl_order_ev (l : List Int) (hl : l.length ≤ 140737488351232) : Ev (fun k => impl_isOrder.f k l) (isOrd l) := by
  have key : ∀ b : Bool, Ev (fun k => impl_isOrder.j0 k l b) (if b = true then false else ordGo (l.length : Int) [] l) := by
    intro b
    refine ev_succ ?_
    simp only [impl_isOrder.j0.eq_2]
    cases b with
    | true => exact ev_pos rfl (ev_now rfl)
    | false => exact ev_neg (by simp) (impl_order_l l hl l [] rfl)
  unfold impl_isOrder.f isOrd
  by_cases h1 : (l.length : Int) < 1
  · refine ev_pos h1 (ev_eq (key true) ?_)
    rw [if_pos rfl, if_neg (fun h => by omega)]
  · refine ev_neg h1 (ev_eq (key _) ?_)
    by_cases h2 : (l.length : Int) > 7
    · rw [if_neg (c := 1 ≤ l.length ∧ l.length ≤ 7) (fun h => by omega), if_pos (decide_eq_true h2)]
    · rw [if_pos (c := 1 ≤ l.length ∧ l.length ≤ 7) ⟨by omega, by omega⟩, if_neg (by simp; omega)]


/-! ### laws.markIntS, laws.heldIntS -/
theorem mark_l : ∀ (suf pre : List Int) (x : Int), 0 ≤ x → x + suf.length ≤ 4611686018427387904 → pre.length + suf.length ≤ 4611686018427387904 → Ev (fun k => laws_markIntS.l0 k (pre ++ suf) x (pre.length : Int)) (x + suf.length, pre ++ iota x suf.length) := by
  intro suf
  induction suf with
  | nil =>
    intro pre x h0 h1 h2
    refine ev_succ ?_
    simp only [laws_markIntS.l0.eq_2]
    refine ev_neg (by simp) ?_
    exact ev_now (by simp [iota])
  | cons c suf ih =>
    intro pre x h0 h1 h2
    simp only [List.length_cons] at h1 h2
    refine ev_succ ?_
    simp only [laws_markIntS.l0.eq_2]
    refine ev_pos (by simp; omega) (ev_pos (by omega) ?_)
    have e2 : (pre ++ c :: suf).set ((pre.length : Int)).toNat x = (pre ++ [x]) ++ suf := by simp
    rw [wrap_snoc (pre := pre) (c := x) (by omega), e2, wrap_of (by omega) (by omega)]
    refine ev_eq (ih (pre ++ [x]) (x + 1) (by omega) (by omega) (by simp; omega)) ?_
    simp [iota]; omega
theorem mark_ev (l : List Int) (x : Int) (h0 : 0 ≤ x) (h1 : x + l.length ≤ 4611686018427387904) : Ev (fun k => laws_markIntS.f k l x) (x + l.length, iota x l.length) := by
  unfold laws_markIntS.f
  have := mark_l l [] x h0 h1 (by simp; omega)
  simpa using this
theorem held_l : ∀ (n : Nat) (pre : List Int) (x : Int), 0 ≤ x → x + n ≤ 4611686018427387904 → pre.length + n ≤ 4611686018427387904 → Ev (fun k => laws_heldIntS.l0 k (pre ++ iota x n) x (pre.length : Int)) (x + n) := by
  intro n
  induction n with
  | zero =>
    intro pre x h0 h1 h2
    refine ev_succ ?_
    simp only [laws_heldIntS.l0.eq_2]
    refine ev_neg (by simp [iota]) ?_
    exact ev_now (by simp)
  | succ n ih =>
    intro pre x h0 h1 h2
    refine ev_succ ?_
    simp only [laws_heldIntS.l0.eq_2, iota, rd_mid]
    refine ev_pos (by simp; omega) (ev_pos (by omega) (ev_pos trivial ?_))
    rw [wrap_snoc (pre := pre) (c := x) (by omega), wrap_of (by omega) (by omega), show pre ++ x :: iota (x + 1) n = (pre ++ [x]) ++ iota (x + 1) n by simp]
    refine ev_eq (ih (pre ++ [x]) (x + 1) (by omega) (by omega) (by simp; omega)) ?_
    omega
theorem held_ev (n : Nat) (x : Int) (h0 : 0 ≤ x) (h1 : x + n ≤ 4611686018427387904) : Ev (fun k => laws_heldIntS.f k (iota x n) x) (x + n) := by
  unfold laws_heldIntS.f
  have := held_l n [] x h0 h1 (by simp; omega)
  simpa using this

/-! ### shape -/
theorem spec_shape_in (l : List Int) (hl : l.length ≤ 7) (x : Int) (i : Int) (hi : 0 ≤ i ∧ i < l.length) (hx : rd l i = x) (out R : List Int) (ho : out.length ≤ 7) : ∀ (suf pre : List Int) (a : Int), l = pre ++ suf → 0 ≤ a → a + suf.length ≤ 100 → Ev (fun k => spec_l3Shape.l0 k l (out ++ [a + lessN x suf]) (wrap64 (i + 1))) R → Ev (fun k => spec_l3Shape.l1 k l out i a (pre.length : Int)) R := by
  intro suf
  induction suf with
  | nil =>
    intro pre a e h0 h1 hR
    have h := len_end e
    refine ev_succ ?_
    simp only [spec_l3Shape.l1.eq_2]
    refine ev_neg (by omega) (ev_pos (by omega) ?_)
    simpa [lessN] using hR
  | cons c suf ih =>
    intro pre a e h0 h1 hR
    have h := len_mid e
    simp only [List.length_cons] at h1
    refine ev_succ ?_
    simp only [spec_l3Shape.l1.eq_2, rd_mid' e, hx]
    rw [wrap_snoc (pre := pre) (c := c) (by omega)]
    refine ev_pos (by omega) (ev_pos (by omega) (ev_pos (by omega) (ev_pos (by omega) ?_)))
    rw [lessN_cons] at hR
    by_cases hc : c < x
    · refine ev_pos hc ?_
      rw [wrap_of (x := a + 1) (by omega) (by omega)]
      refine ih _ _ (snoc_mid e) (by omega) (by omega) ?_
      rw [if_pos hc] at hR
      rwa [show a + 1 + (lessN x suf : Int) = a + ((1 + lessN x suf : Nat) : Int) by omega]
    · refine ev_neg hc (ih _ _ (snoc_mid e) (by omega) (by omega) ?_)
      rw [if_neg hc] at hR
      simpa using hR
theorem spec_shape_l (l : List Int) (hl : l.length ≤ 7) : ∀ (suf pre out : List Int), l = pre ++ suf → out.length = pre.length → Ev (fun k => spec_l3Shape.l0 k l out (pre.length : Int)) (out ++ suf.map (fun x => ((1 + lessN x l : Nat) : Int))) := by
  intro suf
  induction suf with
  | nil =>
    intro pre out e ho
    have h := len_end e
    refine ev_succ ?_
    simp only [spec_l3Shape.l0.eq_2]
    exact ev_neg (by omega) (ev_now (by simp))
  | cons c suf ih =>
    intro pre out e ho
    have h := len_mid e
    refine ev_succ ?_
    simp only [spec_l3Shape.l0.eq_2]
    refine ev_pos (by omega) (spec_shape_in l hl c _ ⟨by omega, by omega⟩ (rd_mid' e) out _ (by omega) l [] 1 rfl (by omega) (by omega) ?_)
    rw [wrap_snoc (pre := pre) (c := c) (by omega)]
    refine ev_eq (ih _ _ (snoc_mid e) ?_) ?_
    · simp [ho]
    · simp
theorem spec_shape_ev (l : List Int) (hl : l.length ≤ 7) : Ev (fun k => spec_l3Shape.f k l) (shapeL l) := by
  unfold spec_l3Shape.f shapeL
  exact spec_shape_l l hl l [] [] rfl rfl

/-! ### all choices, as the reference lists them -/
theorem own_ev (l : List Int) (h : l.length ≤ 1000000) : Ev (fun _ => spec_l1Own.f l) l := by
  unfold spec_l1Own.f
  exact ev_let (ev_pos (by simp; omega) (ev_now (by simp)))

theorem choices_f (n many : Nat) (hn : n ≤ 7) (r : Nat) (L : ∀ (done : List Int) (acc : List (List Int)), done.length + r ≤ n → acc.length + (chL n many r done).length ≤ 1000 → Ev (fun k => spec_l3Choices.l0 k done (n : Int) (many : Int) acc ((n - r : Nat) : Int)) (acc ++ chL n many r done)) :
    ∀ (done : List Int), done.length + r ≤ n → (done = [] ∧ r = n ∨ ∃ d, ∃ x : Int, done = d ++ [x] ∧ x + 1 = ((n - r : Nat) : Int)) → Ev (fun k => spec_l3Choices.f k done (n : Int) (many : Int)) (chA n many r done) := by
  intro done hd hl
  have hb := chL_bound n many r done (by omega)
  refine ev_succ ?_
  simp only [spec_l3Choices.f.eq_2]
  unfold chA
  by_cases hm : done.length = many
  · rw [if_pos hm]; exact ev_pos (by omega) (ev_now rfl)
  · rw [if_neg hm]
    have J : ∀ x : Int, x = ((n - r : Nat) : Int) → Ev (fun k => spec_l3Choices.j0 k done (n : Int) (many : Int) [] x) (chL n many r done) := by
      intro x hx
      refine ev_succ ?_
      simp only [spec_l3Choices.j0.eq_2]
      rw [hx]
      exact ev_eq (L done [] hd (by simp; omega)) (by simp)
    refine ev_neg (by omega) (ev_let ?_)
    rcases hl with ⟨rfl, rfl⟩ | ⟨d, x, rfl, hx⟩
    · exact ev_neg (by simp) (J 0 (by simp))
    · have h1 : ((d ++ [x]).length : Int) = (d.length : Int) + 1 := by simp
      have h2 : rd (d ++ [x]) (((d ++ [x]).length : Int) - 1) = x := by simp [rd]
      rw [wrap_of (x := ((d ++ [x]).length : Int) - 1) (by simp at hd; omega) (by simp at hd; omega), h2]
      exact ev_pos (by omega) (ev_pos (by omega) (ev_pos (by omega) (J _ (by rw [wrap_of (by omega) (by omega)]; exact hx))))
theorem choices_l (n many : Nat) (hn : n ≤ 7) : ∀ (r : Nat), r ≤ n →
    (∀ (done : List Int) (acc : List (List Int)), done.length + r ≤ n → acc.length + (chL n many r done).length ≤ 1000 → Ev (fun k => spec_l3Choices.l0 k done (n : Int) (many : Int) acc ((n - r : Nat) : Int)) (acc ++ chL n many r done)) ∧
    (∀ (done : List Int), done.length + r ≤ n → (done = [] ∧ r = n ∨ ∃ d, ∃ x : Int, done = d ++ [x] ∧ x + 1 = ((n - r : Nat) : Int)) → Ev (fun k => spec_l3Choices.f k done (n : Int) (many : Int)) (chA n many r done)) := by
  intro r
  induction r with
  | zero =>
    intro hr
    have L : ∀ (done : List Int) (acc : List (List Int)), done.length + 0 ≤ n → acc.length + (chL n many 0 done).length ≤ 1000 → Ev (fun k => spec_l3Choices.l0 k done (n : Int) (many : Int) acc ((n - 0 : Nat) : Int)) (acc ++ chL n many 0 done) := by
      intro done acc _ _
      refine ev_succ ?_
      simp only [spec_l3Choices.l0.eq_2]
      exact ev_neg (by omega) (ev_now (by simp [chL]))
    exact ⟨L, fun done hd hl => choices_f n many hn 0 L done hd hl⟩
  | succ r ih =>
    intro hr
    obtain ⟨ih1, ih2⟩ := ih (by omega)
    have L : ∀ (done : List Int) (acc : List (List Int)), done.length + (r + 1) ≤ n → acc.length + (chL n many (r + 1) done).length ≤ 1000 → Ev (fun k => spec_l3Choices.l0 k done (n : Int) (many : Int) acc ((n - (r + 1) : Nat) : Int)) (acc ++ chL n many (r + 1) done) := by
      intro done acc hd ha
      rw [chL_succ] at ha ⊢
      rw [List.length_append] at ha
      refine ev_succ ?_
      simp only [spec_l3Choices.l0.eq_2]
      rw [wrap_of (x := ((n - (r + 1) : Nat) : Int) + 1) (by omega) (by omega), show ((n - (r + 1) : Nat) : Int) + 1 = ((n - r : Nat) : Int) by omega]
      refine ev_pos (by omega) (ev_bind (own_ev done (by omega)) (ev_pos (by omega) (ev_bind (ih2 (done ++ [((n - (r + 1) : Nat) : Int)]) (by simp; omega) (.inr ⟨done, _, rfl, by omega⟩)) (ev_pos (by omega) ?_))))
      refine ev_eq (ih1 done _ (by omega) (by rw [List.length_append]; omega)) ?_
      rw [List.append_assoc]
    exact ⟨L, fun done hd hl => choices_f n many hn (r + 1) L done hd hl⟩

theorem spec_at_l (l xs : List Int) (hl : xs.length ≤ 7) (hq : ∀ x ∈ xs, 0 ≤ x ∧ x < (l.length : Int)) : ∀ (suf pre out : List Int), xs = pre ++ suf → out.length = pre.length → Ev (fun k => spec_l3At.l0 k l xs out (pre.length : Int)) (out ++ atG l suf) := by
  intro suf
  induction suf with
  | nil =>
    intro pre out e ho
    have h := len_end e
    refine ev_succ ?_
    simp only [spec_l3At.l0.eq_2]
    exact ev_neg (by omega) (ev_now (by simp [atG]))
  | cons c suf ih =>
    intro pre out e ho
    have h := len_mid e
    have hc := hq c (by rw [e]; simp)
    refine ev_succ ?_
    simp only [spec_l3At.l0.eq_2, rd_mid' e]
    rw [wrap_snoc (pre := pre) (c := c) (by omega)]
    refine ev_pos (by omega) (ev_pos (by omega) (ev_pos (by omega) (ev_pos (by omega) (ev_pos (by omega) (ev_eq (ih _ _ (snoc_mid e) (by simp [ho])) ?_)))))
    simp [atG]
theorem spec_at_ev (l xs : List Int) (hl : xs.length ≤ 7) (hq : ∀ x ∈ xs, 0 ≤ x ∧ x < (l.length : Int)) : Ev (fun k => spec_l3At.f k l xs) (atG l xs) := by
  unfold spec_l3At.f
  exact spec_at_l l xs hl hq xs [] [] rfl rfl

def hit (l p xs : List Int) : Bool := decide (shapeL (atG l xs) = p)
/-! ### l3Goes: the search by shapes of beginnings comes to what all choices tell -/
def inB (l p : List Int) : Bool := (chA l.length p.length l.length []).any (hit l p)
theorem ch_ext (n many : Nat) : ∀ (r : Nat) (done xs : List Int), xs ∈ chL n many r done → ∃ t, xs = done ++ t := by
  intro r
  induction r with
  | zero => intro done xs h; cases h
  | succ r ih =>
    intro done xs h
    rw [chL_succ] at h
    rcases List.mem_append.1 h with h | h
    · unfold chA at h
      split at h
      · exact ⟨_, List.mem_singleton.1 h⟩
      · obtain ⟨t, e⟩ := ih _ xs h
        exact ⟨_, by rw [e, List.append_assoc]⟩
    · exact ih done xs h
theorem chA_ext (n many r : Nat) (done xs : List Int) (h : xs ∈ chA n many r done) : ∃ t, xs = done ++ t := by
  unfold chA at h
  split at h
  · exact ⟨[], by simpa using List.mem_singleton.1 h⟩
  · exact ch_ext n many r done xs h
theorem goes_f (l p : List Int) (hl : l.length ≤ 7) (hp : p.length ≤ 7) (hp1 : 1 ≤ p.length) (hs : shapeL p = p) (r : Nat) (done : List Int) (hd : done.length + r ≤ l.length) (hm : done.length ≤ p.length)
    (L : done.length < p.length → Ev (fun k => spec_l3Goes.l0 k l p (atG l done) ((l.length - r : Nat) : Int)) ((chL l.length p.length r done).any (hit l p))) :
    Ev (fun k => spec_l3Goes.f k l p (atG l done) ((l.length - r : Nat) : Int)) ((chA l.length p.length r done).any (hit l p)) := by
  have ha : (atG l done).length = done.length := by simp [atG]
  refine ev_succ ?_
  simp only [spec_l3Goes.f.eq_2]
  have J : ∀ b : Bool, (b = true → (chA l.length p.length r done).any (hit l p) = false) → (b = false → done.length = p.length → shapeL (atG l done) = shapeL (p.take done.length)) → Ev (fun k => spec_l3Goes.j0 k l p (atG l done) ((l.length - r : Nat) : Int) b) ((chA l.length p.length r done).any (hit l p)) := by
    intro b h1 h2
    refine ev_succ ?_
    simp only [spec_l3Goes.j0.eq_2]
    cases b with
    | true => rw [h1 rfl]; exact ev_pos rfl (ev_now rfl)
    | false =>
      refine ev_neg (by simp) ?_
      by_cases hq : done.length = p.length
      · refine ev_pos (by omega) (ev_now ?_)
        have := h2 rfl hq
        rw [hq, List.take_length, hs] at this
        unfold chA
        rw [if_pos hq]
        simp [hit, this]
      · refine ev_neg (by omega) ?_
        unfold chA
        rw [if_neg hq]
        exact L (by omega)
  by_cases hz : (done.length : Int) > 0
  · refine ev_pos (by omega) (ev_bind (spec_shape_ev _ (by omega)) (ev_pos (by omega) (ev_pos (by omega) ?_)))
    rw [show (((atG l done).length : Int)).toNat = done.length by omega]
    refine ev_bind (spec_shape_ev _ (by simp; omega)) (ev_bind (same_ev _ _ (by simp [shapeL]; omega)) (J _ ?_ ?_))
    · intro hb
      have hb : ¬ shapeL (atG l done) = shapeL (p.take done.length) := by simpa using hb
      rw [List.any_eq_false]
      intro xs hx hh
      obtain ⟨t, e⟩ := chA_ext _ _ _ _ _ hx
      refine hb ?_
      have hh : shapeL (atG l xs) = shapeL p := by rw [hs]; simpa [hit] using hh
      have h3 := shape_take hh done.length
      rw [e, show atG l (done ++ t) = atG l done ++ atG l t by simp [atG], List.take_left' ha] at h3
      exact h3
    · intro hb _
      simpa using hb
  · exact ev_neg (by omega) (J false (by simp) (fun _ h => by omega))
theorem goes_l (l p : List Int) (hl : l.length ≤ 7) (hp : p.length ≤ 7) (hp1 : 1 ≤ p.length) (hs : shapeL p = p) : ∀ (r : Nat), r ≤ l.length →
    (∀ (done : List Int), done.length + r ≤ l.length → done.length < p.length → Ev (fun k => spec_l3Goes.l0 k l p (atG l done) ((l.length - r : Nat) : Int)) ((chL l.length p.length r done).any (hit l p))) := by
  intro r
  induction r with
  | zero =>
    intro hr done hd hm
    refine ev_succ ?_
    simp only [spec_l3Goes.l0.eq_2]
    exact ev_neg (by omega) (ev_now (by simp [chL]))
  | succ r ih =>
    intro hr done hd hm
    have ih1 := ih (by omega)
    have ha : (atG l done).length = done.length := by simp [atG]
    refine ev_succ ?_
    simp only [spec_l3Goes.l0.eq_2]
    rw [wrap_of (x := ((l.length - (r + 1) : Nat) : Int) + 1) (by omega) (by omega), show ((l.length - (r + 1) : Nat) : Int) + 1 = ((l.length - r : Nat) : Int) by omega]
    rw [chL_succ, List.any_append]
    have h2 := goes_f l p hl hp hp1 hs r (done ++ [((l.length - (r + 1) : Nat) : Int)]) (by simp; omega) (by simp; omega) (fun hq => ih1 _ (by simp; omega) hq)
    rw [show atG l (done ++ [((l.length - (r + 1) : Nat) : Int)]) = atG l done ++ [rd l ((l.length - (r + 1) : Nat) : Int)] by simp [atG]] at h2
    refine ev_pos (by omega) (ev_bind (own_ev _ (by omega)) (ev_pos (by omega) (ev_let (ev_pos (by simp; omega) (ev_bind h2 ?_)))))
    by_cases hb : (chA l.length p.length r (done ++ [((l.length - (r + 1) : Nat) : Int)])).any (hit l p) = true
    · exact ev_pos hb (ev_now (by rw [hb]; rfl))
    · exact ev_neg hb (ev_eq (ih1 done (by omega) hm) (by simp only [Bool.not_eq_true] at hb; rw [hb]; rfl))
theorem spec_in_ev (l p : List Int) (hl : l.length ≤ 7) (hp : isOrd p = true) : Ev (fun k => spec_l3In.f k l p) (inB l p) := by
  unfold spec_l3In.f inB
  have h1 := ord_len hp
  have h2 := goes_f l p hl h1.2 h1.1 (shape_ord hp) l.length [] (by simp) (by simp) (fun hq => goes_l l p hl h1.2 h1.1 (shape_ord hp) l.length (Nat.le_refl _) [] (by simp) hq)
  rw [Nat.sub_self] at h2
  exact ev_bind h2 (ev_now rfl)

/-! ### choose, where the callback stops it at the first hit -/
def foundR (o : Option (List Int)) (p : (List Int × Bool) × Bool) : Prop :=
  match o with
  | some xs => p = ((xs, true), true)
  | none => p.1.2 = false ∧ p.2 = false
theorem loopG_find {h : List Int → Bool} {f : List Int × Bool → List Int → (List Int × Bool) × Bool} (hf : ∀ s xs, f s xs = ((xs, h xs), h xs)) (n many : Nat) :
    ∀ (r : Nat) (done : List Int) (s : List Int × Bool), s.2 = false → foundR ((chL n many r done).find? h) (loopG f n many r done s) := by
  intro r
  induction r with
  | zero => intro done s hs; exact ⟨hs, rfl⟩
  | succ r ih =>
    intro done s hs
    simp only [loopG, chL, List.find?_append]
    by_cases hm : done.length + 1 = many
    · rw [if_pos hm, if_pos hm, hf]
      by_cases hh : h (done ++ [((n - (r + 1) : Nat) : Int)]) = true
      · rw [hh]; simp [hh, foundR]
      · have hh : h (done ++ [((n - (r + 1) : Nat) : Int)]) = false := by simpa using hh
        rw [hh]
        simp only [List.find?_cons, hh, List.find?_nil, Bool.false_eq_true, if_false, Option.none_or]
        exact ih done _ rfl
    · rw [if_neg hm, if_neg hm]
      have h1 := ih (done ++ [((n - (r + 1) : Nat) : Int)]) s hs
      cases he : (chL n many r (done ++ [((n - (r + 1) : Nat) : Int)])).find? h with
      | some xs =>
        rw [he] at h1
        simp only [foundR] at h1
        rw [h1]; simp [foundR]
      | none =>
        rw [he] at h1
        obtain ⟨h2, h3⟩ := h1
        rw [h3]
        simp only [Bool.false_eq_true, if_false, Option.none_or]
        exact ih done _ h2
theorem addG_find {h : List Int → Bool} {f : List Int × Bool → List Int → (List Int × Bool) × Bool} (hf : ∀ s xs, f s xs = ((xs, h xs), h xs)) (n many r : Nat) (done : List Int) (s : List Int × Bool) (hs : s.2 = false) : foundR ((chA n many r done).find? h) (addG f n many r done s) := by
  unfold addG chA
  by_cases hm : done.length = many
  · rw [if_pos hm, if_pos hm, hf]
    by_cases hh : h done = true
    · rw [hh]; simp [hh, foundR]
    · have hh : h done = false := by simpa using hh
      rw [hh]; simp [hh, foundR]
  · rw [if_neg hm, if_neg hm]; exact loopG_find hf n many r done s hs
def firstR (l p : List Int) : List Int × Bool :=
  match (chA l.length p.length l.length []).find? (hit l p) with
  | some xs => (xs, true)
  | none => ([], false)
theorem fpR_eq (l p : List Int) : fpR l p = firstR l p := by
  have h := addG_find (h := hit l p) (f := fpF l p) (fun s xs => rfl) l.length p.length l.length [] ([], false) rfl
  unfold fpR fpG firstR
  cases he : (chA l.length p.length l.length []).find? (hit l p) with
  | some xs => rw [he] at h; simp only [foundR] at h; rw [h]; rfl
  | none => rw [he] at h; obtain ⟨h2, _⟩ := h; rw [h2]; rfl
theorem impl_first_ev (l p : List Int) (hl : l.length ≤ 7) (hp : p.length ≤ 7) : Ev (fun _ => impl_firstPlaces.f l p) (firstR l p) := by
  unfold impl_firstPlaces.f
  exact ev_pos ⟨hl, hp⟩ (ev_now (fpR_eq l p))
theorem firstR_len (l p : List Int) : (firstR l p).1.length ≤ p.length := by
  unfold firstR
  cases he : (chA l.length p.length l.length []).find? (hit l p) with
  | some xs => exact Nat.le_of_eq (chA_mem _ _ xs (List.mem_of_find?_eq_some he)).1
  | none => exact Nat.zero_le _

theorem inB_first (l p : List Int) : (firstR l p).2 = inB l p := by
  unfold firstR inB
  cases he : (chA l.length p.length l.length []).find? (hit l p) with
  | some xs =>
    have h1 := List.mem_of_find?_eq_some he
    have h2 := List.find?_some he
    exact (List.any_eq_true.2 ⟨xs, h1, h2⟩).symm
  | none =>
    rw [List.find?_eq_none] at he
    exact (List.any_eq_false.2 he).symm
theorem impl_in_ev (l p : List Int) (hl : l.length ≤ 7) (hp : p.length ≤ 7) : Ev (fun _ => impl_contains.f l p) (inB l p) := by
  unfold impl_contains.f
  exact ev_bind (impl_first_ev l p hl hp) (ev_now (inB_first l p))

theorem good_ev (a b : List Int) (ha : a.length ≤ 140737488351232) (hb : b.length ≤ 140737488351232) : Ev (fun k => spec_l3Good.f k a b) (isOrd a && isOrd b) := by
  unfold spec_l3Good.f
  refine ev_bind (spec_order_ev a ha) ?_
  by_cases h1 : isOrd a = true
  · exact ev_pos h1 (ev_bind (spec_order_ev b hb) (ev_now (by rw [h1]; rfl)))
  · exact ev_neg h1 (ev_now (by simp [h1]))

/-- The law's frame: two lists; where both sides come to one list. -/
theorem law_frame2 (a b out : List Int) (q : Bool) (ha : a.length * 8 ≤ 140737488351232) (hb : b.length * 8 ≤ 140737488351232) (ho : out.length ≤ 1000000)
    (hs : Ev (fun k => spec_FewestDrops.f k a b) (out, q)) (hi : Ev (fun _ => impl_FewestDrops.f a b) (out, q)) : Ev (fun k => laws_FnExactFewestDrops.f k a b) true := by
  unfold laws_FnExactFewestDrops.f
  by_cases h1 : (a.length : Int) > 1048576
  · exact ev_pos h1 (ev_now rfl)
  refine ev_neg h1 ?_
  by_cases h2 : (b.length : Int) > 1048576
  · exact ev_pos h2 (ev_now rfl)
  refine ev_neg h2 (ev_bind (toInt_ev a ha) (ev_bind (toInt_ev b hb) (ev_bind hs (ev_bind (toInt_ev a ha) (ev_bind (toInt_ev b hb) (ev_bind hi (ev_bind (eqInt_ev out out (by omega)) (ev_pos (by simp) ?_))))))))
  refine ev_succ ?_
  simp only [laws_FnExactFewestDrops.j0.eq_2]
  refine ev_neg (by simp) (ev_bind (toInt_ev a ha) (ev_bind (eqInt_ev a a ha) (ev_pos (by simp) (ev_bind (toInt_ev b hb) (ev_bind (eqInt_ev b b hb) (ev_pos (by simp) ?_))))))
  refine ev_bind (mark_ev a 1 (by omega) (by omega)) (ev_bind (mark_ev b _ (by omega) (by omega)) (ev_neg (by omega) (ev_bind (eqInt_ev out out (by omega)) (ev_pos (by simp) ?_))))
  refine ev_succ ?_
  simp only [laws_FnExactFewestDrops.j1.eq_2]
  refine ev_neg (by simp) (ev_bind (mark_ev out 1 (by omega) (by omega)) (ev_bind (held_ev _ 1 (by omega) (by omega)) (ev_neg (by omega) (ev_pos rfl (ev_bind (toInt_ev a ha) (ev_bind (toInt_ev b hb) (ev_bind hi (ev_bind (eqInt_ev out out (by omega)) (ev_pos (by simp) ?_)))))))))
  refine ev_succ ?_
  simp only [laws_FnExactFewestDrops.j2.eq_2]
  exact ev_neg (by simp) (ev_bind (held_ev _ 1 (by omega) (by omega)) (ev_neg (by omega) (ev_pos rfl (ev_now rfl))))

def okB (l p xs : List Int) : Bool := !inB (woG l xs) p
def dropsGo (l p : List Int) : Nat → Nat → List Int × Bool
  | 0, _ => ([], false)
  | d + 1, many => match (chA l.length many l.length []).find? (okB l p) with
    | some xs => (xs, true)
    | none => dropsGo l p d (many + 1)
theorem dropsGo_len (l p : List Int) : ∀ (d many : Nat), (dropsGo l p d many).1.length ≤ many + d := by
  intro d
  induction d with
  | zero => intro m; simp [dropsGo]
  | succ d ih =>
    intro m
    simp only [dropsGo]
    cases he : (chA l.length m l.length []).find? (okB l p) with
    | some xs => have := (chA_mem _ _ xs (List.mem_of_find?_eq_some he)).1; simp only; omega
    | none => have := ih (m + 1); simp only; omega
theorem fw_drops (l p : List Int) : ∀ (d many : Nat) (s : List Int × Bool), s.2 = false → (dropsGo l p d many).2 = true → fwGo l p d many s = dropsGo l p d many := by
  intro d
  induction d with
  | zero => intro many s _ h; simp [dropsGo] at h
  | succ d ih =>
    intro many s hs h
    have hf := addG_find (h := okB l p) (f := fwF l p) (fun s xs => by simp only [fwF, okB, fpR_eq, inB_first]) l.length many l.length [] s hs
    simp only [dropsGo] at h ⊢
    simp only [fwGo]
    rw [if_neg (by rw [hs]; simp)]
    cases he : (chA l.length many l.length []).find? (okB l p) with
    | some xs =>
      rw [he] at hf
      simp only [foundR] at hf
      rw [hf]
      cases d with
      | zero => rfl
      | succ d => simp only [fwGo, if_true]
    | none =>
      rw [he] at hf h
      obtain ⟨h2, _⟩ := hf
      exact ih _ _ h2 h
theorem dropsGo_succ (l p : List Int) (d many : Nat) : dropsGo l p (d + 1) many = (match (chA l.length many l.length []).find? (okB l p) with
    | some xs => (xs, true)
    | none => dropsGo l p d (many + 1)) := rfl
theorem drops_more (l p : List Int) : ∀ (d many : Nat), (dropsGo l p d many).2 = true → dropsGo l p (d + 1) many = dropsGo l p d many := by
  intro d
  induction d with
  | zero => intro many h; simp [dropsGo] at h
  | succ d ih =>
    intro many h
    rw [dropsGo_succ] at h
    rw [dropsGo_succ l p (d + 1) many, dropsGo_succ l p d many]
    cases he : (chA l.length many l.length []).find? (okB l p) with
    | some xs => rfl
    | none => rw [he] at h; exact ih _ h
theorem woGo_le (xs : List Int) : ∀ (s : List Int) (i : Int), (woGo xs s i).length ≤ s.length := by
  intro s
  induction s with
  | nil => intro i; exact Nat.le_refl _
  | cons c s ih => intro i; have := ih (i + 1); simp only [woGo]; split <;> simp <;> omega
theorem woGo_len_eq (xs : List Int) : ∀ (s t : List Int) (i : Int), s.length = t.length → (woGo xs s i).length = (woGo xs t i).length := by
  intro s
  induction s with
  | nil => intro t i h; cases t with
    | nil => rfl
    | cons _ _ => simp at h
  | cons c s ih =>
    intro t i h
    cases t with
    | nil => simp at h
    | cons d t =>
      have := ih t (i + 1) (by simpa using h)
      simp only [woGo]
      split <;> simp [this]
theorem one_left : ∀ i : Fin 7, ((chA (i.val + 1) i.val (i.val + 1) []).all (fun xs => (woG (List.replicate (i.val + 1) 0) xs).length == 1) && !(chA (i.val + 1) i.val (i.val + 1) []).isEmpty) = true := by decide +kernel
theorem in_one (x : Int) (p : List Int) (hp : 2 ≤ p.length) : inB [x] p = false := by
  unfold inB
  have e : chA [x].length p.length [x].length [] = [] := by
    unfold chA
    rw [if_neg (by simp; omega)]
    simp only [List.length_cons, List.length_nil, chL]
    rw [if_neg (by omega)]; rfl
  rw [e]; rfl
/-- With one number left, the pattern is avoided. -/
theorem last_try (l p : List Int) (h1 : 1 ≤ l.length) (h7 : l.length ≤ 7) (hp : 2 ≤ p.length) : ∃ xs, (chA l.length (l.length - 1) l.length []).find? (okB l p) = some xs := by
  have h := one_left ⟨l.length - 1, by omega⟩
  simp only [Nat.sub_add_cancel h1, Bool.and_eq_true, List.all_eq_true, Bool.not_eq_true'] at h
  obtain ⟨ha, hn⟩ := h
  have ok : ∀ xs ∈ chA l.length (l.length - 1) l.length [], okB l p xs = true := by
    intro xs hx
    have h2 := ha xs hx
    simp only [beq_iff_eq] at h2
    have h3 : (woG l xs).length = 1 := by rw [← h2]; exact woGo_len_eq xs _ _ 0 (by simp)
    obtain ⟨y, hy⟩ := List.length_eq_one_iff.1 h3
    unfold okB
    rw [hy, in_one y p hp]; rfl
  cases hc : chA l.length (l.length - 1) l.length [] with
  | nil => rw [hc] at hn; simp at hn
  | cons c t =>
    have := ok c (by rw [hc]; simp)
    exact ⟨c, by simp [this]⟩
theorem drops_found (l p : List Int) (h1 : 1 ≤ l.length) (h7 : l.length ≤ 7) (hp : 2 ≤ p.length) : ∀ (d many : Nat), many + d = l.length → 1 ≤ d → (dropsGo l p d many).2 = true := by
  intro d
  induction d with
  | zero => intro many _ h; omega
  | succ d ih =>
    intro many e _
    rw [dropsGo]
    cases he : (chA l.length many l.length []).find? (okB l p) with
    | some xs => rfl
    | none =>
      by_cases hd : d = 0
      · obtain ⟨xs, hx⟩ := last_try l p h1 h7 hp
        rw [show l.length - 1 = many by omega, he] at hx
        cases hx
      · exact ih (many + 1) (by omega) (by omega)
def fdR (a b : List Int) : List Int × Bool := if isOrd a = true ∧ isOrd b = true ∧ 2 ≤ b.length then dropsGo a b a.length 0 else ([], false)
theorem fdR_len (a b : List Int) : (fdR a b).1.length ≤ 7 := by
  unfold fdR
  split
  · rename_i h; have := dropsGo_len a b a.length 0; have := (ord_len h.1).2; omega
  · simp
theorem impl_ev (a b : List Int) (ha : a.length ≤ 140737488351232) (hb : b.length ≤ 140737488351232) : Ev (fun _ => impl_FewestDrops.f a b) (fdR a b) := by
  unfold impl_FewestDrops.f
  refine ev_pos ⟨ha, hb⟩ (ev_now ?_)
  unfold fdR
  by_cases h : isOrd a = true ∧ isOrd b = true ∧ 2 ≤ b.length
  · rw [if_pos h, if_pos h]
    have ho := ord_len h.1
    have hf := drops_found a b ho.1 ho.2 h.2.2 a.length 0 (by omega) ho.1
    have hm := drops_more a b a.length 0 hf
    unfold fwG
    rw [fw_drops a b (a.length + 1) 0 _ rfl (by rw [hm]; exact hf), hm]
  · rw [if_neg h, if_neg h]
/-! ### the reference -/
def otGo (xs : List Int) : Nat → Int → List Int
  | 0, _ => []
  | d + 1, i => if i ∈ xs then otGo xs d (i + 1) else i :: otGo xs d (i + 1)
theorem otGo_len (xs : List Int) : ∀ (d : Nat) (i : Int), (otGo xs d i).length ≤ d := by
  intro d
  induction d with
  | zero => intro i; simp [otGo]
  | succ d ih => intro i; have := ih (i + 1); simp only [otGo]; split <;> simp <;> omega
theorem otGo_mem (xs : List Int) : ∀ (d : Nat) (i x : Int), x ∈ otGo xs d i → i ≤ x ∧ x < i + d := by
  intro d
  induction d with
  | zero => intro i x h; simp [otGo] at h
  | succ d ih =>
    intro i x h
    simp only [otGo] at h
    split at h
    · have := ih _ _ h; omega
    · rcases List.mem_cons.1 h with rfl | h
      · omega
      · have := ih _ _ h; omega
theorem others_l (n : Nat) (hn : n ≤ 7) (xs : List Int) (hx : xs.length ≤ 7) : ∀ (d j : Nat) (out : List Int), j + d = n → out.length ≤ j → Ev (fun k => spec_l3Others.l0 k xs (n : Int) out (j : Int)) (out ++ otGo xs d (j : Int)) := by
  intro d
  induction d with
  | zero =>
    intro j out e ho
    refine ev_succ ?_
    simp only [spec_l3Others.l0.eq_2]
    exact ev_neg (by omega) (ev_now (by simp [otGo]))
  | succ d ih =>
    intro j out e ho
    refine ev_succ ?_
    simp only [spec_l3Others.l0.eq_2]
    rw [wrap_of (x := (j : Int) + 1) (by omega) (by omega)]
    refine ev_pos (by omega) (ev_bind (has_ev xs (j : Int) (by omega)) ?_)
    by_cases hc : (j : Int) ∈ xs
    · refine ev_pos (by simp [hc]) (ev_eq (ih (j + 1) out (by omega) (by omega)) ?_)
      simp [otGo, hc]
    · refine ev_neg (by simp [hc]) (ev_pos (by omega) (ev_eq (ih (j + 1) _ (by omega) (by simp; omega)) ?_))
      simp [otGo, hc]
theorem others_at (l xs : List Int) : ∀ (suf pre : List Int), l = pre ++ suf → atG l (otGo xs suf.length (pre.length : Int)) = woGo xs suf (pre.length : Int) := by
  intro suf
  induction suf with
  | nil => intro pre e; rfl
  | cons c suf ih =>
    intro pre e
    have h := ih (pre ++ [c]) (snoc_mid e)
    rw [show ((pre ++ [c]).length : Int) = (pre.length : Int) + 1 by simp] at h
    simp only [List.length_cons, otGo, woGo]
    split
    · exact h
    · rw [← h]; simp [atG, rd_mid' e]
theorem alike_shape (y : List Int) : AlikeL (shapeL y) y := by
  refine ⟨shape_length y, fun i j hi hj => ?_⟩
  rw [shape_length] at hi hj
  rw [shape_getD hi, shape_getD hj, lessN_lt_iff (getD_mem hi) (getD_mem hj)]
  omega
theorem alike_at {a b : List Int} (h : AlikeL a b) (xs : List Int) (hx : ∀ x ∈ xs, 0 ≤ x ∧ x < (a.length : Int)) : AlikeL (atG a xs) (atG b xs) := by
  refine ⟨by simp [atG], fun i j hi hj => ?_⟩
  have hi' : i < xs.length := by simpa [atG] using hi
  have hj' : j < xs.length := by simpa [atG] using hj
  have e : ∀ (l : List Int) (i : Nat), i < xs.length → (atG l xs).getD i 0 = l.getD (xs.getD i 0).toNat 0 := fun l i hi => by
    simp [atG, rd, List.getD_eq_getElem?_getD, List.getElem?_eq_getElem hi]
  rw [e a i hi', e a j hj', e b i hi', e b j hj']
  have m1 := hx _ (getD_mem hi')
  have m2 := hx _ (getD_mem hj')
  exact h.2 _ _ (by omega) (by omega)
theorem in_shape (y p : List Int) : inB (shapeL y) p = inB y p := by
  unfold inB
  rw [shape_length]
  rw [Bool.eq_iff_iff, List.any_eq_true, List.any_eq_true]
  have key : ∀ xs ∈ chA y.length p.length y.length [], hit (shapeL y) p xs = hit y p xs := by
    intro xs hx
    have hm := (chA_mem _ _ xs hx).2
    unfold hit
    rw [shape_of_alike (alike_at (alike_shape y) xs (by rw [shape_length]; exact hm))]
  constructor
  · rintro ⟨xs, hx, h⟩; exact ⟨xs, hx, by rw [← key xs hx]; exact h⟩
  · rintro ⟨xs, hx, h⟩; exact ⟨xs, hx, by rw [key xs hx]; exact h⟩
theorem spec_fd_in (a b : List Int) (ho : isOrd a = true) (hb : isOrd b = true) (m : Nat) (hm : m ≤ 7) (rows : List (List Int)) (hr : rows.length ≤ 200) (hrow : ∀ xs ∈ rows, xs.length = m) (R : List Int × Bool) (hR : rows.find? (okB a b) = none → Ev (fun k => spec_FewestDrops.l0 k a b ((m : Int) + 1)) R) :
    ∀ (suf pre : List (List Int)), rows = pre ++ suf → (suf.find? (okB a b) = none → rows.find? (okB a b) = none) → Ev (fun k => spec_FewestDrops.l1 k a b (m : Int) rows (pre.length : Int)) (match suf.find? (okB a b) with | some xs => (xs, true) | none => R) := by
  have h7 := (ord_len ho).2
  intro suf
  induction suf with
  | nil =>
    intro pre e hq
    have h := len_end e
    refine ev_succ ?_
    simp only [spec_FewestDrops.l1.eq_2]
    rw [wrap_of (x := (m : Int) + 1) (by omega) (by omega)]
    exact ev_neg (by omega) (hR (hq rfl))
  | cons c suf ih =>
    intro pre e hq
    have h := len_mid e
    have hc := hrow c (by rw [e]; simp)
    have hrd : rd_L1 rows (pre.length : Int) = c := by rw [e]; simp [rd_L1]
    have hol := otGo_len c a.length 0
    have hot : Ev (fun k => spec_l3Others.f k c (a.length : Int)) (otGo c a.length 0) := by
      unfold spec_l3Others.f
      have := others_l a.length h7 c (by omega) a.length 0 [] (by omega) (Nat.le_refl _)
      simpa using this
    have hat : atG a (otGo c a.length 0) = woG a c := others_at a c a [] rfl
    have hwl : (woG a c).length ≤ 7 := Nat.le_trans (woGo_le c a 0) h7
    refine ev_succ ?_
    simp only [spec_FewestDrops.l1.eq_2, hrd]
    refine ev_pos (by omega) (ev_pos (by omega) (ev_bind hot (ev_bind (spec_at_ev a _ (by omega) (fun x hx => by have := otGo_mem c a.length 0 x hx; omega)) ?_)))
    rw [hat]
    refine ev_bind (spec_shape_ev _ hwl) (ev_bind (spec_in_ev (shapeL (woG a c)) b (by rw [shape_length]; exact hwl) hb) ?_)
    rw [in_shape, wrap_snoc (pre := pre) (c := c) (by omega)]
    by_cases hi : inB (woG a c) b = true
    · have hk : okB a b c = false := by unfold okB; rw [hi]; rfl
      refine ev_pos hi (ev_eq (ih _ (snoc_mid e) (fun hh => hq (by rw [List.find?_cons, hk]; exact hh))) ?_)
      rw [List.find?_cons, hk]
    · have hk : okB a b c = true := by unfold okB; simpa using hi
      refine ev_neg hi (ev_now ?_)
      rw [List.find?_cons, hk]
theorem spec_fd_l (a b : List Int) (ho : isOrd a = true) (hb : isOrd b = true) : ∀ (d m : Nat), m + d = a.length → Ev (fun k => spec_FewestDrops.l0 k a b (m : Int)) (dropsGo a b d m) := by
  have h7 := (ord_len ho).2
  intro d
  induction d with
  | zero =>
    intro m e
    refine ev_succ ?_
    simp only [spec_FewestDrops.l0.eq_2]
    exact ev_neg (by omega) (ev_now rfl)
  | succ d ih =>
    intro m e
    have h1 := (choices_l a.length m h7 a.length (Nat.le_refl _)).2 [] (by simp) (.inl ⟨rfl, rfl⟩)
    have hbd := chA_bound a.length m a.length [] h7
    refine ev_succ ?_
    simp only [spec_FewestDrops.l0.eq_2]
    refine ev_pos (by omega) (ev_bind h1 ?_)
    have := spec_fd_in a b ho hb m (by omega) (chA a.length m a.length []) (by omega) (fun xs hx => (chA_mem _ _ xs hx).1) (dropsGo a b d (m + 1)) (fun _ => ih (m + 1) (by omega)) _ [] rfl (fun h => h)
    exact this
theorem spec_ev (a b : List Int) (ha : a.length ≤ 140737488351232) (hb : b.length ≤ 140737488351232) : Ev (fun k => spec_FewestDrops.f k a b) (fdR a b) := by
  unfold spec_FewestDrops.f
  refine ev_bind (good_ev a b ha hb) ?_
  by_cases h : isOrd a = true ∧ isOrd b = true
  · have hl := ord_len h.2
    refine ev_pos (by simp [h.1, h.2]) (ev_succ ?_)
    simp only [spec_FewestDrops.j0.eq_2]
    unfold fdR
    by_cases h1 : b.length = 1
    · rw [if_neg (fun hh => by omega)]
      exact ev_pos (by simp [h1]) (ev_now rfl)
    · rw [if_pos ⟨h.1, h.2, by omega⟩]
      exact ev_neg (by simp; omega) (spec_fd_l a b h.1 h.2 a.length 0 (by omega))
  · refine ev_neg (by simpa using h) (ev_succ ?_)
    simp only [spec_FewestDrops.j0.eq_2]
    exact ev_pos trivial (ev_now (by unfold fdR; rw [if_neg (fun hh => h ⟨hh.1, hh.2.1⟩)]))
theorem FnExactFewestDrops : laws_FnExactFewestDrops.Pure := by
  intro a b hma ha hwa hmb hb hwb
  apply Ev.rounds (r := true)
  exact law_frame2 a b (fdR a b).1 (fdR a b).2 ha hb (by have := fdR_len a b; omega) (spec_ev a b (len_max ha) (len_max hb)) (impl_ev a b (len_max ha) (len_max hb))
end Go.Proofs.Ytjaplmgbhmgpiaa.Pure
