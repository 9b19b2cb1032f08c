/- The pure statement of FnExactPatternsIn: program and reference put the same patterns into the same sequence. No condition. -/
import Derived.Test.YtlkddcabjcejdaaMFnExactPatternsInx9
import Derived.Test.YtlkddcabjcejdaaBase
import Derived.Test.YtlkddcabjcejdaaBaseP
import Derived.Test.YtlkddcabjcejdaaBaseN
import Derived.Test.YtlkddcabjcejdaaBaseF
import Derived.Test.YtlkddcabjcejdaaBaseD
import Derived.Test.YtlkddcabjcejdaaBaseY
import Derived.Test.YtlkddcabjcejdaaBaseZ
namespace Go.Proofs.Ytlkddcabjcejdaa.Pure
open Go Go.RowKit Go.Proofs.Ytlkddcabjcejdaa.MFnExactPatternsIn Go.Proofs.YtlkddcabjcejdaaW.PrintWords Go.Proofs.Ytlkddcabjcejdaa.Base
set_option linter.unusedVariables false
set_option linter.unusedSimpArgs false
/-! ### Is it an order? -/
theorem in_ev (a b c : Int) : Ev (fun _ => spec_l1In.f a b c) (decide (b ≤ a) && decide (a ≤ c)) := by
  unfold spec_l1In.f
  by_cases h : a ≥ b
  · refine ev_pos h (ev_now ?_)
    have : decide (b ≤ a) = true := decide_eq_true h
    rw [this]; rfl
  · refine ev_neg h (ev_now ?_)
    have : decide (b ≤ a) = false := decide_eq_false (by omega)
    rw [this]; rfl

theorem has_l (l : List Int) (x : Int) (hl : l.length ≤ 140737488351232) : ∀ (suf pre : List Int), l = pre ++ suf → Ev (fun k => spec_l1Has.l0 k l x (pre.length : Int)) (decide (x ∈ suf)) := by
  intro suf
  induction suf with
  | nil =>
    intro pre e
    have h := len_end e
    refine ev_succ ?_
    simp only [spec_l1Has.l0.eq_2]
    refine ev_neg (by omega) ?_
    exact ev_now (by simp)
  | cons c suf ih =>
    intro pre e
    have h := len_mid e
    refine ev_succ ?_
    simp only [spec_l1Has.l0.eq_2, rd_mid' e]
    refine ev_pos (by omega) (ev_pos (by omega) ?_)
    by_cases hc : c = x
    · exact ev_pos hc (ev_now (by simp [hc]))
    · refine ev_neg hc ?_
      rw [wrap_snoc (pre := pre) (c := c) (by omega)]
      refine ev_eq (ih _ (snoc_mid e)) ?_
      have : x ≠ c := fun h => hc h.symm
      simp [this]
theorem has_ev (l : List Int) (x : Int) (hl : l.length ≤ 140737488351232) : Ev (fun k => spec_l1Has.f k l x) (decide (x ∈ l)) := by
  unfold spec_l1Has.f
  exact has_l l x hl l [] rfl
theorem idx_l (l : List Int) (x : Int) (hl : l.length ≤ 140737488351232) : ∀ (suf pre : List Int), l = pre ++ suf → Ev (fun k => slices_Index_int_int.l0 k l x (l.length : Int) (pre.length : Int)) (if x ∈ suf then ((pre.length + suf.idxOf x : Nat) : Int) else -1) := by
  intro suf
  induction suf with
  | nil =>
    intro pre e
    have h := len_end e
    refine ev_succ ?_
    simp only [slices_Index_int_int.l0.eq_2]
    refine ev_neg (by omega) ?_
    exact ev_now (by simp)
  | cons c suf ih =>
    intro pre e
    have h := len_mid e
    refine ev_succ ?_
    simp only [slices_Index_int_int.l0.eq_2, rd_mid' e]
    refine ev_pos (by omega) (ev_pos (by omega) (ev_pos (by omega) ?_))
    by_cases hc : x = c
    · exact ev_pos hc (ev_now (by simp [hc]))
    · refine ev_neg hc ?_
      rw [wrap_snoc (pre := pre) (c := c) (by omega)]
      refine ev_eq (ih _ (snoc_mid e)) ?_
      have hc' : ¬ c = x := fun h => hc h.symm
      have hb : (c == x) = false := by simpa using hc'
      simp only [List.mem_cons, hc, false_or, List.idxOf_cons, hb, cond_false]
      by_cases hm : x ∈ suf
      · rw [if_pos hm, if_pos hm]; simp; omega
      · rw [if_neg hm, if_neg hm]
theorem idx_ev (l : List Int) (x : Int) (hl : l.length ≤ 140737488351232) : Ev (fun k => slices_Index_int_int.f k l x) (if x ∈ l then ((l.idxOf x : Nat) : Int) else -1) := by
  unfold slices_Index_int_int.f
  simpa using idx_l l x hl l [] rfl
theorem contains_ev (l : List Int) (x : Int) (hl : l.length ≤ 140737488351232) : Ev (fun k => slices_Contains_int_int.f k l x) (decide (x ∈ l)) := by
  unfold slices_Contains_int_int.f
  refine ev_bind (idx_ev l x hl) (ev_now ?_)
  by_cases h : x ∈ l
  · simp [h]
  · simp [h]


theorem spec_order_l (l : List Int) (hl : l.length ≤ 140737488351232) : ∀ (suf pre : List Int), l = pre ++ suf → Ev (fun k => spec_l2Order.l0 k l (pre.length : Int)) (ordGo (l.length : Int) pre suf) := by
  intro suf
  induction suf with
  | nil =>
    intro pre e
    have h := len_end e
    refine ev_succ ?_
    simp only [spec_l2Order.l0.eq_2]
    refine ev_neg (by omega) ?_
    exact ev_now rfl
  | cons c suf ih =>
    intro pre e
    have h := len_mid e
    refine ev_succ ?_
    simp only [spec_l2Order.l0.eq_2, rd_mid' e, take_mid e]
    refine ev_pos (by omega) (ev_pos (by omega) (ev_bind (in_ev _ _ _) ?_))
    by_cases hr : 1 ≤ c ∧ c ≤ (l.length : Int)
    · refine ev_pos (by simp [hr.1, hr.2]) (ev_pos (by omega) (ev_bind (has_ev pre c (by omega)) ?_))
      by_cases hc : c ∈ pre
      · exact ev_pos (by simp [hc]) (ev_now (by simp [ordGo, hc]))
      · refine ev_neg (by simp [hc]) ?_
        rw [wrap_snoc (pre := pre) (c := c) (by omega)]
        refine ev_eq (ih _ (snoc_mid e)) ?_
        simp [ordGo, hr.1, hr.2, hc]
    · refine ev_neg (by simp; omega) (ev_now ?_)
      simp only [ordGo]
      rw [if_neg (fun h => hr ⟨h.1, h.2.1⟩)]
theorem spec_order_ev (l : List Int) (hl : l.length ≤ 140737488351232) : Ev (fun k => spec_l2Order.f k l) (isOrd l) := by
  unfold spec_l2Order.f
  refine ev_bind (in_ev _ _ _) ?_
  unfold isOrd
  by_cases h : 1 ≤ l.length ∧ l.length ≤ 7
  · refine ev_pos (by simp; omega) ?_
    rw [if_pos h]
    exact spec_order_l l hl l [] rfl
  · refine ev_neg (by simp; omega) (ev_now ?_)
    rw [if_neg h]
theorem impl_order_l (l : List Int) (hl : l.length ≤ 140737488351232) : ∀ (suf pre : List Int), l = pre ++ suf → Ev (fun k => impl_isOrder.l0 k l l (l.length : Int) (pre.length : Int)) (ordGo (l.length : Int) pre suf) := by
  intro suf
  induction suf with
  | nil =>
    intro pre e
    have h := len_end e
    refine ev_succ ?_
    simp only [impl_isOrder.l0.eq_2]
    refine ev_neg (by omega) ?_
    exact ev_now rfl
  | cons c suf ih =>
    intro pre e
    have h := len_mid e
    refine ev_succ ?_
    simp only [impl_isOrder.l0.eq_2, rd_mid' e, take_mid e]
    refine ev_pos (by omega) (ev_pos (by omega) (ev_pos (by omega) ?_))
    by_cases h1 : c < 1
    · exact ev_pos h1 (ev_now (by simp only [ordGo]; rw [if_neg (fun h => by omega)]))
    refine ev_neg h1 ?_
    by_cases h2 : c > (l.length : Int)
    · exact ev_pos h2 (ev_now (by simp only [ordGo]; rw [if_neg (fun h => by omega)]))
    refine ev_neg h2 (ev_pos (by omega) (ev_bind (contains_ev pre c (by omega)) ?_))
    by_cases hc : c ∈ pre
    · exact ev_pos (by simp [hc]) (ev_now (by simp [ordGo, hc]))
    · refine ev_neg (by simp [hc]) ?_
      rw [wrap_snoc (pre := pre) (c := c) (by omega)]
      refine ev_eq (ih _ (snoc_mid e)) ?_
      simp only [ordGo]
      rw [if_pos ⟨by omega, by omega, hc⟩]
theorem impl_order_ev (l : List Int) (hl : l.length ≤ 140737488351232) : Ev (fun k => impl_isOrder.f k l) (isOrd l) := by
  have key : ∀ b : Bool, Ev (fun k => impl_isOrder.j0 k l b) (if b = true then false else ordGo (l.length : Int) [] l) := by
    intro b
    refine ev_succ ?_
    simp only [impl_isOrder.j0.eq_2]
    cases b with
    | true => exact ev_pos rfl (ev_now rfl)
    | false => exact ev_neg (by simp) (impl_order_l l hl l [] rfl)
  unfold impl_isOrder.f isOrd
  by_cases h1 : (l.length : Int) < 1
  · refine ev_pos h1 (ev_eq (key true) ?_)
    rw [if_pos rfl, if_neg (fun h => by omega)]
  · refine ev_neg h1 (ev_eq (key _) ?_)
    by_cases h2 : (l.length : Int) > 7
    · rw [if_neg (c := 1 ≤ l.length ∧ l.length ≤ 7) (fun h => by omega), if_pos (decide_eq_true h2)]
    · rw [if_pos (c := 1 ≤ l.length ∧ l.length ≤ 7) ⟨by omega, by omega⟩, if_neg (by simp; omega)]


theorem same_l (a b : List Int) (hl : a.length * 8 ≤ 140737488351232) : ∀ (s t pre q : List Int), a = pre ++ s → b = q ++ t → pre.length = q.length → s.length = t.length → Ev (fun k => spec_l1Same.l0 k a b (pre.length : Int)) (decide (s = t)) := by
  intro s
  induction s with
  | nil =>
    intro t pre q e e' h1 h2
    have h := len_end e
    obtain rfl : t = [] := by cases t with
      | nil => rfl
      | cons _ _ => simp at h2
    refine ev_succ ?_
    simp only [spec_l1Same.l0.eq_2]
    refine ev_neg (by omega) ?_
    exact ev_now (by simp)
  | cons c s ih =>
    intro t pre q e e' h1 h2
    cases t with
    | nil => simp at h2
    | cons d t =>
    have h := len_mid e
    have h' := len_mid e'
    refine ev_succ ?_
    have r1 := rd_mid' e
    have r2 := rd_mid' e'
    rw [← h1] at r2
    simp only [spec_l1Same.l0.eq_2, r1, r2]
    refine ev_pos (by omega) (ev_pos (by omega) (ev_pos (by omega) ?_))
    by_cases hc : c = d
    · refine ev_pos hc ?_
      rw [wrap_snoc (pre := pre) (c := c) (by omega)]
      refine ev_eq (ih t (pre ++ [c]) (q ++ [d]) (snoc_mid e) (snoc_mid e') (by simp [h1]) (by simpa using h2)) ?_
      simp [hc]
    · refine ev_neg hc (ev_now ?_)
      simp [hc]
theorem same_ev (a b : List Int) (hl : a.length * 8 ≤ 140737488351232) : Ev (fun k => spec_l1Same.f k a b) (decide (a = b)) := by
  unfold spec_l1Same.f
  by_cases h : a.length = b.length
  · refine ev_pos (by omega) ?_
    exact same_l a b hl a b [] [] rfl rfl rfl h
  · refine ev_neg (by omega) (ev_now ?_)
    symm
    exact decide_eq_false (fun e => h (by rw [e]))

/-! ### shape -/
theorem spec_shape_in (l : List Int) (hl : l.length ≤ 7) (x : Int) (i : Int) (hi : 0 ≤ i ∧ i < l.length) (hx : rd l i = x) (out R : List Int) (ho : out.length ≤ 7) : ∀ (suf pre : List Int) (a : Int), l = pre ++ suf → 0 ≤ a → a + suf.length ≤ 100 → Ev (fun k => spec_l3Shape.l0 k l (out ++ [a + lessN x suf]) (wrap64 (i + 1))) R → Ev (fun k => spec_l3Shape.l1 k l out i a (pre.length : Int)) R := by
  intro suf
  induction suf with
  | nil =>
    intro pre a e h0 h1 hR
    have h := len_end e
    refine ev_succ ?_
    simp only [spec_l3Shape.l1.eq_2]
    refine ev_neg (by omega) (ev_pos (by omega) ?_)
    simpa [lessN] using hR
  | cons c suf ih =>
    intro pre a e h0 h1 hR
    have h := len_mid e
    simp only [List.length_cons] at h1
    refine ev_succ ?_
    simp only [spec_l3Shape.l1.eq_2, rd_mid' e, hx]
    rw [wrap_snoc (pre := pre) (c := c) (by omega)]
    refine ev_pos (by omega) (ev_pos (by omega) (ev_pos (by omega) (ev_pos (by omega) ?_)))
    rw [lessN_cons] at hR
    by_cases hc : c < x
    · refine ev_pos hc ?_
      rw [wrap_of (x := a + 1) (by omega) (by omega)]
      refine ih _ _ (snoc_mid e) (by omega) (by omega) ?_
      rw [if_pos hc] at hR
      rwa [show a + 1 + (lessN x suf : Int) = a + ((1 + lessN x suf : Nat) : Int) by omega]
    · refine ev_neg hc (ih _ _ (snoc_mid e) (by omega) (by omega) ?_)
      rw [if_neg hc] at hR
      simpa using hR
theorem spec_shape_l (l : List Int) (hl : l.length ≤ 7) : ∀ (suf pre out : List Int), l = pre ++ suf → out.length = pre.length → Ev (fun k => spec_l3Shape.l0 k l out (pre.length : Int)) (out ++ suf.map (fun x => ((1 + lessN x l : Nat) : Int))) := by
  intro suf
  induction suf with
  | nil =>
    intro pre out e ho
    have h := len_end e
    refine ev_succ ?_
    simp only [spec_l3Shape.l0.eq_2]
    exact ev_neg (by omega) (ev_now (by simp))
  | cons c suf ih =>
    intro pre out e ho
    have h := len_mid e
    refine ev_succ ?_
    simp only [spec_l3Shape.l0.eq_2]
    refine ev_pos (by omega) (spec_shape_in l hl c _ ⟨by omega, by omega⟩ (rd_mid' e) out _ (by omega) l [] 1 rfl (by omega) (by omega) ?_)
    rw [wrap_snoc (pre := pre) (c := c) (by omega)]
    refine ev_eq (ih _ _ (snoc_mid e) ?_) ?_
    · simp [ho]
    · simp
theorem spec_shape_ev (l : List Int) (hl : l.length ≤ 7) : Ev (fun k => spec_l3Shape.f k l) (shapeL l) := by
  unfold spec_l3Shape.f shapeL
  exact spec_shape_l l hl l [] [] rfl rfl

/-! ### all choices, as the reference lists them -/
theorem own_ev (l : List Int) (h : l.length ≤ 1000000) : Ev (fun _ => spec_l1Own.f l) l := by
  unfold spec_l1Own.f
  exact ev_let (ev_pos (by simp; omega) (ev_now (by simp)))

theorem choices_f (n many : Nat) (hn : n ≤ 7) (r : Nat) (L : ∀ (done : List Int) (acc : List (List Int)), done.length + r ≤ n → acc.length + (chL n many r done).length ≤ 1000 → Ev (fun k => spec_l3Choices.l0 k done (n : Int) (many : Int) acc ((n - r : Nat) : Int)) (acc ++ chL n many r done)) :
    ∀ (done : List Int), done.length + r ≤ n → (done = [] ∧ r = n ∨ ∃ d, ∃ x : Int, done = d ++ [x] ∧ x + 1 = ((n - r : Nat) : Int)) → Ev (fun k => spec_l3Choices.f k done (n : Int) (many : Int)) (chA n many r done) := by
  intro done hd hl
  have hb := chL_bound n many r done (by omega)
  refine ev_succ ?_
  simp only [spec_l3Choices.f.eq_2]
  unfold chA
  by_cases hm : done.length = many
  · rw [if_pos hm]; exact ev_pos (by omega) (ev_now rfl)
  · rw [if_neg hm]
    have J : ∀ x : Int, x = ((n - r : Nat) : Int) → Ev (fun k => spec_l3Choices.j0 k done (n : Int) (many : Int) [] x) (chL n many r done) := by
      intro x hx
      refine ev_succ ?_
      simp only [spec_l3Choices.j0.eq_2]
      rw [hx]
      exact ev_eq (L done [] hd (by simp; omega)) (by simp)
    refine ev_neg (by omega) (ev_let ?_)
    rcases hl with ⟨rfl, rfl⟩ | ⟨d, x, rfl, hx⟩
    · exact ev_neg (by simp) (J 0 (by simp))
    · have h1 : ((d ++ [x]).length : Int) = (d.length : Int) + 1 := by simp
      have h2 : rd (d ++ [x]) (((d ++ [x]).length : Int) - 1) = x := by simp [rd]
      rw [wrap_of (x := ((d ++ [x]).length : Int) - 1) (by simp at hd; omega) (by simp at hd; omega), h2]
      exact ev_pos (by omega) (ev_pos (by omega) (ev_pos (by omega) (J _ (by rw [wrap_of (by omega) (by omega)]; exact hx))))
theorem choices_l (n many : Nat) (hn : n ≤ 7) : ∀ (r : Nat), r ≤ n →
    (∀ (done : List Int) (acc : List (List Int)), done.length + r ≤ n → acc.length + (chL n many r done).length ≤ 1000 → Ev (fun k => spec_l3Choices.l0 k done (n : Int) (many : Int) acc ((n - r : Nat) : Int)) (acc ++ chL n many r done)) ∧
    (∀ (done : List Int), done.length + r ≤ n → (done = [] ∧ r = n ∨ ∃ d, ∃ x : Int, done = d ++ [x] ∧ x + 1 = ((n - r : Nat) : Int)) → Ev (fun k => spec_l3Choices.f k done (n : Int) (many : Int)) (chA n many r done)) := by
  intro r
  induction r with
  | zero =>
    intro hr
    have L : ∀ (done : List Int) (acc : List (List Int)), done.length + 0 ≤ n → acc.length + (chL n many 0 done).length ≤ 1000 → Ev (fun k => spec_l3Choices.l0 k done (n : Int) (many : Int) acc ((n - 0 : Nat) : Int)) (acc ++ chL n many 0 done) := by
      intro done acc _ _
      refine ev_succ ?_
      simp only [spec_l3Choices.l0.eq_2]
      exact ev_neg (by omega) (ev_now (by simp [chL]))
    exact ⟨L, fun done hd hl => choices_f n many hn 0 L done hd hl⟩
  | succ r ih =>
    intro hr
    obtain ⟨ih1, ih2⟩ := ih (by omega)
    have L : ∀ (done : List Int) (acc : List (List Int)), done.length + (r + 1) ≤ n → acc.length + (chL n many (r + 1) done).length ≤ 1000 → Ev (fun k => spec_l3Choices.l0 k done (n : Int) (many : Int) acc ((n - (r + 1) : Nat) : Int)) (acc ++ chL n many (r + 1) done) := by
      intro done acc hd ha
      rw [chL_succ] at ha ⊢
      rw [List.length_append] at ha
      refine ev_succ ?_
      simp only [spec_l3Choices.l0.eq_2]
      rw [wrap_of (x := ((n - (r + 1) : Nat) : Int) + 1) (by omega) (by omega), show ((n - (r + 1) : Nat) : Int) + 1 = ((n - r : Nat) : Int) by omega]
      refine ev_pos (by omega) (ev_bind (own_ev done (by omega)) (ev_pos (by omega) (ev_bind (ih2 (done ++ [((n - (r + 1) : Nat) : Int)]) (by simp; omega) (.inr ⟨done, _, rfl, by omega⟩)) (ev_pos (by omega) ?_))))
      refine ev_eq (ih1 done _ (by omega) (by rw [List.length_append]; omega)) ?_
      rw [List.append_assoc]
    exact ⟨L, fun done hd hl => choices_f n many hn (r + 1) L done hd hl⟩

theorem spec_at_l (l xs : List Int) (hl : xs.length ≤ 7) (hq : ∀ x ∈ xs, 0 ≤ x ∧ x < (l.length : Int)) : ∀ (suf pre out : List Int), xs = pre ++ suf → out.length = pre.length → Ev (fun k => spec_l3At.l0 k l xs out (pre.length : Int)) (out ++ atG l suf) := by
  intro suf
  induction suf with
  | nil =>
    intro pre out e ho
    have h := len_end e
    refine ev_succ ?_
    simp only [spec_l3At.l0.eq_2]
    exact ev_neg (by omega) (ev_now (by simp [atG]))
  | cons c suf ih =>
    intro pre out e ho
    have h := len_mid e
    have hc := hq c (by rw [e]; simp)
    refine ev_succ ?_
    simp only [spec_l3At.l0.eq_2, rd_mid' e]
    rw [wrap_snoc (pre := pre) (c := c) (by omega)]
    refine ev_pos (by omega) (ev_pos (by omega) (ev_pos (by omega) (ev_pos (by omega) (ev_pos (by omega) (ev_eq (ih _ _ (snoc_mid e) (by simp [ho])) ?_)))))
    simp [atG]
theorem spec_at_ev (l xs : List Int) (hl : xs.length ≤ 7) (hq : ∀ x ∈ xs, 0 ≤ x ∧ x < (l.length : Int)) : Ev (fun k => spec_l3At.f k l xs) (atG l xs) := by
  unfold spec_l3At.f
  exact spec_at_l l xs hl hq xs [] [] rfl rfl

/-! ### choose, where the callback never stops it -/
theorem loopG_fold {σ : Type} (f : σ → List Int → σ × Bool) (hf : ∀ s xs, (f s xs).2 = false) (n many : Nat) : ∀ (r : Nat) (done : List Int) (s : σ), loopG f n many r done s = ((chL n many r done).foldl (fun s xs => (f s xs).1) s, false) := by
  intro r
  induction r with
  | zero => intro done s; rfl
  | succ r ih =>
    intro done s
    simp only [loopG, chL, List.foldl_append]
    by_cases h : done.length + 1 = many
    · rw [if_pos h, if_pos h, hf, if_neg (by simp), ih]; rfl
    · rw [if_neg h, if_neg h, ih, if_neg (by simp), ih]
theorem addG_fold {σ : Type} (f : σ → List Int → σ × Bool) (hf : ∀ s xs, (f s xs).2 = false) {n many r : Nat} {done : List Int} {s : σ} : addG f n many r done s = ((chA n many r done).foldl (fun s xs => (f s xs).1) s, false) := by
  unfold addG chA
  by_cases h : done.length = many
  · rw [if_pos h, if_pos h]
    have := hf s done
    simp only [List.foldl_cons, List.foldl_nil]
    rw [← this]
  · rw [if_neg h, if_neg h, loopG_fold f hf]

/-! ### rows in ascending sequence, each once -/
def putL : List (List Int) → List Int → List (List Int)
  | [], x => [x]
  | c :: s, x => if ltL c x = true then c :: putL s x else if c = x then c :: s else x :: c :: s
abbrev Strict (l : List (List Int)) : Prop := l.Pairwise (fun a b => ltL a b = true)
theorem putL_mem : ∀ (rows : List (List Int)) (x y : List Int), y ∈ putL rows x ↔ y = x ∨ y ∈ rows := by
  intro rows
  induction rows with
  | nil => intro x y; simp [putL]
  | cons c s ih =>
    intro x y
    simp only [putL]
    by_cases h1 : ltL c x = true
    · rw [if_pos h1, List.mem_cons, ih, List.mem_cons]
      constructor
      · rintro (h | h | h)
        · exact .inr (.inl h)
        · exact .inl h
        · exact .inr (.inr h)
      · rintro (h | h | h)
        · exact .inr (.inl h)
        · exact .inl h
        · exact .inr (.inr h)
    · rw [if_neg h1]
      by_cases h2 : c = x
      · rw [if_pos h2]; subst h2; simp
      · rw [if_neg h2]; simp
theorem putL_strict : ∀ (rows : List (List Int)) (x : List Int), Strict rows → Strict (putL rows x) := by
  intro rows
  induction rows with
  | nil => intro x _; simp [putL, Strict]
  | cons c s ih =>
    intro x h
    obtain ⟨hc, hs⟩ := List.pairwise_cons.1 h
    simp only [putL]
    by_cases h1 : ltL c x = true
    · rw [if_pos h1]
      refine List.pairwise_cons.2 ⟨fun y hy => ?_, ih x hs⟩
      rcases (putL_mem s x y).1 hy with rfl | hy
      · exact h1
      · exact hc y hy
    · rw [if_neg h1]
      by_cases h2 : c = x
      · rw [if_pos h2]; exact h
      · rw [if_neg h2]
        have h3 : ltL x c = true := by
          cases hq : ltL x c with
          | true => rfl
          | false => exact absurd (ltL_total (by simpa using h1) hq) h2
        refine List.pairwise_cons.2 ⟨fun y hy => ?_, h⟩
        rcases List.mem_cons.1 hy with rfl | hy
        · exact h3
        · exact ltL_trans h3 (hc y hy)
theorem strict_ext : ∀ (a b : List (List Int)), Strict a → Strict b → (∀ y, y ∈ a ↔ y ∈ b) → a = b := by
  intro a
  induction a with
  | nil =>
    intro b _ _ h
    cases b with
    | nil => rfl
    | cons y t => exact absurd ((h y).2 (by simp)) (by simp)
  | cons x s ih =>
    intro b ha hb h
    cases b with
    | nil => exact absurd ((h x).1 (by simp)) (by simp)
    | cons y t =>
      obtain ⟨hx, hs⟩ := List.pairwise_cons.1 ha
      obtain ⟨hy, ht⟩ := List.pairwise_cons.1 hb
      have hxy : x = y := by
        rcases List.mem_cons.1 ((h x).1 (by simp)) with e | e
        · exact e
        · rcases List.mem_cons.1 ((h y).2 (by simp)) with e' | e'
          · exact e'.symm
          · have := ltL_trans (hx y e') (hy x e)
            rw [ltL_irrefl] at this; cases this
      subst hxy
      refine congrArg (x :: ·) (ih t hs ht (fun z => ⟨fun hz => ?_, fun hz => ?_⟩))
      · rcases List.mem_cons.1 ((h z).1 (by simp [hz])) with e | e
        · subst e; have := hx z hz; rw [ltL_irrefl] at this; cases this
        · exact e
      · rcases List.mem_cons.1 ((h z).2 (by simp [hz])) with e | e
        · subst e; have := hy z hz; rw [ltL_irrefl] at this; cases this
        · exact e
theorem thinG_mem : ∀ (s : List (List Int)) (p y : List Int), y ∈ p :: thinG p s ↔ y ∈ p :: s := by
  intro s
  induction s with
  | nil => intro p y; rfl
  | cons c s ih =>
    intro p y
    simp only [thinG]
    by_cases h : c = p
    · rw [if_pos h]
      subst h
      rw [ih c y]
      simp
    · rw [if_neg h]
      have := ih c y
      simp only [List.mem_cons] at this ⊢
      constructor
      · rintro (h1 | h1)
        · exact .inl h1
        · exact .inr (this.1 h1)
      · rintro (h1 | h1)
        · exact .inl h1
        · exact .inr (this.2 h1)
theorem tidyG_mem (rows : List (List Int)) (y : List Int) : y ∈ tidyG rows ↔ y ∈ rows := by
  unfold tidyG
  rw [← (sortG_perm rows).mem_iff]
  cases sortG rows with
  | nil => rfl
  | cons c s => exact thinG_mem s c y
theorem thinG_strict : ∀ (s : List (List Int)) (p : List Int), (p :: s).Pairwise (fun x y => ltL y x = false) → Strict (p :: thinG p s) := by
  intro s
  induction s with
  | nil => intro p _; simp [thinG, Strict]
  | cons c s ih =>
    intro p h
    obtain ⟨hp, hcs⟩ := List.pairwise_cons.1 h
    have hcs' := ih c hcs
    simp only [thinG]
    by_cases e : c = p
    · rw [if_pos e]
      subst e
      exact hcs'
    · rw [if_neg e]
      have hlt : ltL p c = true := by
        cases hq : ltL p c with
        | true => rfl
        | false => exact absurd (ltL_total (hp c (by simp)) hq) e
      refine List.pairwise_cons.2 ⟨fun y hy => ?_, hcs'⟩
      rcases List.mem_cons.1 hy with rfl | hy
      · exact hlt
      · exact ltL_trans hlt ((List.pairwise_cons.1 hcs').1 y hy)
theorem tidyG_strict (rows : List (List Int)) : Strict (tidyG rows) := by
  unfold tidyG
  have h := sortG_sorted rows
  cases hq : sortG rows with
  | nil => simp [compactG, Strict]
  | cons c s => rw [hq] at h; exact thinG_strict s c h
def putAllL (rows : List (List Int)) : List (List Int) := rows.foldl putL []
theorem putAll_gen : ∀ (rows acc : List (List Int)), Strict acc → Strict (rows.foldl putL acc) ∧ ∀ y, y ∈ rows.foldl putL acc ↔ y ∈ acc ∨ y ∈ rows := by
  intro rows
  induction rows with
  | nil => intro acc h; exact ⟨h, fun y => by simp⟩
  | cons c s ih =>
    intro acc h
    obtain ⟨h1, h2⟩ := ih (putL acc c) (putL_strict acc c h)
    refine ⟨h1, fun y => ?_⟩
    rw [List.foldl_cons, h2, putL_mem, List.mem_cons]
    constructor
    · rintro ((h | h) | h)
      · exact .inr (.inl h)
      · exact .inl h
      · exact .inr (.inr h)
    · rintro (h | h | h)
      · exact .inl (.inr h)
      · exact .inl (.inl h)
      · exact .inr h
theorem putAll_tidy (rows : List (List Int)) : rows.foldl putL [] = tidyG rows := by
  obtain ⟨h1, h2⟩ := putAll_gen rows [] (by simp [Strict])
  exact strict_ext _ _ h1 (tidyG_strict rows) (fun y => by rw [h2, tidyG_mem]; simp)

/-! ### l2Before, l2PutOrder -/
theorem ltL_cons (c d : Int) (s t : List Int) : ltL (c :: s) (d :: t) = if c < d then true else if d < c then false else ltL s t := by
  unfold ltL
  have e : lexC (c :: s) (d :: t) = if c < d then -1 else if d < c then 1 else lexC s t := rfl
  rw [e]
  by_cases h1 : c < d
  · simp [h1]
  · by_cases h2 : d < c
    · simp [h1, h2]
    · simp [h1, h2]
theorem before_l (a b : List Int) (ha : a.length ≤ 1000) (hab : a.length = b.length) : ∀ (s t pre q : List Int), a = pre ++ s → b = q ++ t → pre.length = q.length → Ev (fun k => spec_l2Before.l0 k a b (pre.length : Int)) (ltL s t) := by
  intro s
  induction s with
  | nil =>
    intro t pre q e e' h1
    have h := len_end e
    obtain rfl : t = [] := by
      have : b.length = q.length + t.length := by rw [e']; simp
      have : t.length = 0 := by omega
      exact List.length_eq_zero_iff.1 this
    refine ev_succ ?_
    simp only [spec_l2Before.l0.eq_2]
    exact ev_neg (by omega) (ev_now rfl)
  | cons c s ih =>
    intro t pre q e e' h1
    have h := len_mid e
    cases t with
    | nil =>
      have := len_end (xs := b) (pre := q) (by simpa using e')
      omega
    | cons d t =>
    have h' := len_mid e'
    refine ev_succ ?_
    have r1 := rd_mid' e
    have r2 := rd_mid' e'
    rw [← h1] at r2
    simp only [spec_l2Before.l0.eq_2, r1, r2]
    refine ev_pos (by omega) (ev_pos (by omega) (ev_pos (by omega) ?_))
    by_cases hc : c = d
    · refine ev_pos hc ?_
      rw [wrap_snoc (pre := pre) (c := c) (by omega)]
      refine ev_eq (ih t (pre ++ [c]) (q ++ [d]) (snoc_mid e) (snoc_mid e') (by simp [h1])) ?_
      rw [ltL_cons, if_neg (by omega), if_neg (by omega)]
    · refine ev_neg hc (ev_now ?_)
      rw [ltL_cons]
      by_cases h1 : c < d
      · rw [if_pos h1]; simp [h1]
      · rw [if_neg h1, if_pos (by omega)]; simp [h1]
theorem before_ev (a b : List Int) (ha : a.length ≤ 1000) (hab : a.length = b.length) : Ev (fun k => spec_l2Before.f k a b) (ltL a b) := by
  unfold spec_l2Before.f
  exact before_l a b ha hab a b [] [] rfl rfl rfl
theorem put_l (L : Nat) (hL : L ≤ 1000) (rows : List (List Int)) (x : List Int) (hr : rows.length ≤ 1000000) (hx : x.length = L) (hrl : ∀ y ∈ rows, y.length = L) : ∀ (suf pre : List (List Int)), rows = pre ++ suf → Ev (fun k => spec_l2PutOrder.l0 k rows x (pre.length : Int)) (pre ++ putL suf x) := by
  intro suf
  induction suf with
  | nil =>
    intro pre e
    have h := len_end e
    refine ev_succ ?_
    simp only [spec_l2PutOrder.l0.eq_2]
    have ht : rows.take ((pre.length : Int)).toNat = pre := take_mid e
    have hd : rows.drop ((pre.length : Int)).toNat = [] := by rw [e]; simp
    refine ev_neg (by omega) (ev_let (ev_pos (by omega) (ev_pos (by omega) (ev_let ?_))))
    rw [ht, hd]
    refine ev_pos (by simp; omega) (ev_let (ev_let (ev_pos (by simp; omega) (ev_let (ev_let (ev_pos (by simp; omega) (ev_now ?_)))))))
    simp [putL]
  | cons c suf ih =>
    intro pre e
    have h := len_mid e
    have hrd : rd_L1 rows (pre.length : Int) = c := by rw [e]; simp [rd_L1]
    have hcl := hrl c (by rw [e]; simp)
    have ht : rows.take ((pre.length : Int)).toNat = pre := take_mid e
    have hd : rows.drop ((pre.length : Int)).toNat = c :: suf := by rw [e]; simp
    refine ev_succ ?_
    simp only [spec_l2PutOrder.l0.eq_2, hrd]
    refine ev_pos (by omega) (ev_pos (by omega) (ev_bind (before_ev c x (by omega) (by omega)) ?_))
    simp only [putL]
    by_cases h1 : ltL c x = true
    · rw [if_pos h1]
      refine ev_pos h1 ?_
      rw [wrap_snoc (pre := pre) (c := c) (by omega)]
      refine ev_eq (ih (pre ++ [c]) (snoc_mid e)) ?_
      simp
    · rw [if_neg h1]
      refine ev_neg h1 (ev_bind (same_ev c x (by omega)) ?_)
      by_cases h2 : c = x
      · rw [if_pos h2]
        exact ev_pos (by simp [h2]) (ev_now (by rw [e]))
      · rw [if_neg h2]
        refine ev_neg (by simp [h2]) (ev_let (ev_pos (by omega) (ev_let ?_)))
        rw [ht, hd]
        refine ev_pos (by simp; omega) (ev_let (ev_let (ev_pos (by simp; omega) (ev_let (ev_let (ev_pos (by simp; omega) (ev_now ?_)))))))
        simp
theorem put_ev (L : Nat) (hL : L ≤ 1000) (rows : List (List Int)) (x : List Int) (hr : rows.length ≤ 1000000) (hx : x.length = L) (hrl : ∀ y ∈ rows, y.length = L) : Ev (fun k => spec_l2PutOrder.f k rows x) (putL rows x) := by
  unfold spec_l2PutOrder.f
  exact put_l L hL rows x hr hx hrl rows [] rfl
theorem putL_len (rows : List (List Int)) (x : List Int) : (putL rows x).length ≤ rows.length + 1 := by
  induction rows with
  | nil => simp [putL]
  | cons c s ih =>
    simp only [putL]
    split
    · simp; omega
    · split <;> simp

theorem putAll_bound : ∀ (rows acc : List (List Int)), (rows.foldl putL acc).length ≤ acc.length + rows.length := by
  intro rows
  induction rows with
  | nil => intro acc; simp
  | cons c s ih =>
    intro acc
    rw [List.foldl_cons]
    have := ih (putL acc c)
    have := putL_len acc c
    simp only [List.length_cons]; omega
theorem tidy_bound (rows : List (List Int)) : (tidyG rows).length ≤ rows.length := by
  have := putAll_bound rows []
  rw [putAll_tidy] at this
  simpa using this

/-! ### PatternsIn -/
def piL (l : List Int) (m : Nat) : List (List Int) := (chA l.length m l.length []).map (fun xs => shapeL (atG l xs))
def piR (l : List Int) (a : Int) : List (List Int) × Bool := if isOrd l = true ∧ 1 ≤ a ∧ a ≤ 7 then (tidyG (piL l a.toNat), true) else ([], false)
theorem piL_len {l : List Int} {m : Nat} : ∀ y ∈ piL l m, y.length = m := by
  intro y h
  obtain ⟨xs, hx, rfl⟩ := List.mem_map.1 h
  have := (chA_mem _ _ xs hx).1
  simp [shapeL, atG]; omega
theorem piL_count {l : List Int} {m : Nat} (h : l.length ≤ 7) : (piL l m).length ≤ 128 := by
  unfold piL; rw [List.length_map]; exact chA_bound l.length m l.length [] h
theorem pnG_eq (l : List Int) (m : Nat) : pnG l m = piL l m := by
  unfold pnG piL
  rw [addG_fold (pnF l) (fun s xs => rfl)]
  have : ∀ (rows : List (List Int)) (s : List (List Int)), rows.foldl (fun s xs => (pnF l s xs).1) s = s ++ rows.map (fun xs => shapeL (atG l xs)) := by
    intro rows
    induction rows with
    | nil => intro s; simp
    | cons x t ih => intro s; rw [List.foldl_cons, ih]; simp [pnF]
  rw [this]; rfl
theorem pi_tidied {l : List Int} {m : Nat} (hl : l.length ≤ 7) (hm : m ≤ 7) : impl_tidied.f (piL l m) = some (tidyG (piL l m)) := by
  unfold impl_tidied.f
  have := piL_count (m := m) hl
  rw [if_pos ⟨by omega, fun x hx => by have := piL_len x hx; omega, fun x hx y hy => by rw [piL_len x hx, piL_len y hy]⟩]
theorem pi_impl_ev (l : List Int) (a : Int) (hl : l.length ≤ 140737488351232) : Ev (fun k => impl_PatternsIn.f k l a) (piR l a) := by
  unfold impl_PatternsIn.f
  refine ev_pos hl ?_
  by_cases h : isOrd l = true ∧ 1 ≤ a ∧ a ≤ 7
  · have e : piR l a = (tidyG (piL l a.toNat), true) := if_pos h
    rw [e]
    refine ev_pos h ?_
    rw [pnG_eq, pi_tidied (ord_len h.1).2 (by omega)]
    exact ev_now rfl
  · have e : piR l a = ([], false) := if_neg h
    rw [e]
    exact ev_neg h (ev_now rfl)
theorem pi_spec_l (l : List Int) (m : Nat) (hl : l.length ≤ 7) (hm : m ≤ 7) : ∀ (suf pre : List (List Int)), chA l.length m l.length [] = pre ++ suf → Ev (fun k => spec_PatternsIn.l0 k l ((pre.map (fun xs => shapeL (atG l xs))).foldl putL []) (chA l.length m l.length []) (pre.length : Int)) (tidyG (piL l m), true) := by
  have hb := chA_bound l.length m l.length [] hl
  intro suf
  induction suf with
  | nil =>
    intro pre e
    have h := len_end e
    refine ev_succ ?_
    simp only [spec_PatternsIn.l0.eq_2]
    refine ev_neg (by omega) (ev_now ?_)
    rw [putAll_tidy]
    unfold piL
    rw [e, List.append_nil]
  | cons c suf ih =>
    intro pre e
    have h := len_mid e
    have hmem := chA_mem l.length m c (by rw [e]; simp)
    have hrd : rd_L1 (chA l.length m l.length []) (pre.length : Int) = c := by rw [e]; simp [rd_L1]
    have hall : ∀ y ∈ (pre.map (fun xs => shapeL (atG l xs))).foldl putL [], y.length = m := by
      intro y hy
      rcases ((putAll_gen _ [] (by simp)).2 y).1 hy with hy | hy
      · cases hy
      · exact piL_len y (by unfold piL; rw [e, List.map_append]; simp only [List.mem_append]; exact .inl hy)
    have hcnt : ((pre.map (fun xs => shapeL (atG l xs))).foldl putL []).length ≤ 128 := by
      have := putAll_bound (pre.map (fun xs => shapeL (atG l xs))) []
      simp at this
      omega
    have hal : (atG l c).length ≤ 7 := by simp [atG]; omega
    refine ev_succ ?_
    simp only [spec_PatternsIn.l0.eq_2, hrd]
    rw [wrap_snoc (pre := pre) (c := c) (by omega)]
    refine ev_pos (by omega) (ev_pos (by omega) (ev_bind (spec_at_ev l c (by omega) hmem.2) (ev_bind (spec_shape_ev _ hal) (ev_bind (put_ev m (by omega) _ _ (by omega) (by simp [shapeL, atG]; omega) hall) ?_))))
    have := ih (pre ++ [c]) (snoc_mid e)
    rw [List.map_append, List.foldl_append] at this
    exact this
theorem pi_spec_j (l : List Int) (a : Int) (h : isOrd l = true ∧ 1 ≤ a ∧ a ≤ 7) : Ev (fun k => spec_PatternsIn.j0 k l a [] false) (tidyG (piL l a.toNat), true) := by
  have hl := (ord_len h.1).2
  obtain ⟨m, rfl⟩ : ∃ m : Nat, a = (m : Int) := ⟨a.toNat, by omega⟩
  have h1 := (choices_l l.length m hl l.length (Nat.le_refl _)).2 [] (by simp) (.inl ⟨rfl, rfl⟩)
  refine ev_succ ?_
  simp only [spec_PatternsIn.j0.eq_2]
  exact ev_neg (by simp) (ev_bind h1 (pi_spec_l l m hl (by omega) _ [] rfl))
theorem pi_spec_no (l : List Int) (a : Int) : Ev (fun k => spec_PatternsIn.j0 k l a [] true) ([], false) := by
  refine ev_succ ?_
  simp only [spec_PatternsIn.j0.eq_2]
  exact ev_pos (by trivial) (ev_now rfl)
theorem pi_spec_ev (l : List Int) (a : Int) (hl : l.length ≤ 140737488351232) : Ev (fun k => spec_PatternsIn.f k l a) (piR l a) := by
  unfold spec_PatternsIn.f piR
  refine ev_let (ev_bind (spec_order_ev l hl) ?_)
  by_cases h1 : isOrd l = true
  · refine ev_pos h1 (ev_bind (in_ev a 1 7) ?_)
    by_cases h2 : 1 ≤ a ∧ a ≤ 7
    · rw [if_pos ⟨h1, h2⟩]
      have e : (!(decide ((1 : Int) ≤ a) && decide (a ≤ 7))) = false := by simp [h2.1, h2.2]
      rw [e]
      exact pi_spec_j l a ⟨h1, h2⟩
    · rw [if_neg (fun h => h2 h.2)]
      have e : (!(decide ((1 : Int) ≤ a) && decide (a ≤ 7))) = true := by
        by_cases h3 : (1 : Int) ≤ a <;> by_cases h4 : a ≤ 7 <;> simp [h3, h4] at h2 ⊢
      rw [e]
      exact pi_spec_no l a
  · rw [if_neg (fun h => h1 h.1)]
    exact ev_neg h1 (pi_spec_no l a)
theorem piR_ok (l : List Int) (a : Int) : (piR l a).1.length ≤ 1048576 ∧ (piR l a).1.all (fun xs => decide (xs.length ≤ 1048576)) = true := by
  by_cases h : isOrd l = true ∧ 1 ≤ a ∧ a ≤ 7
  · have hq : piR l a = (tidyG (piL l a.toNat), true) := by unfold piR; rw [if_pos h]
    have hb := tidy_bound (piL l a.toNat)
    have hc := piL_count (m := a.toNat) (ord_len h.1).2
    rw [hq]
    refine ⟨by simp only; omega, List.all_eq_true.2 (fun xs hx => ?_)⟩
    have := piL_len xs ((tidyG_mem _ _).1 hx)
    exact decide_eq_true (by omega)
  · have hq : piR l a = ([], false) := by unfold piR; rw [if_neg h]
    rw [hq]; simp

theorem FnExactPatternsIn : laws_FnExactPatternsIn.Pure := by
  intro a n hm ha hw hn
  apply Ev.rounds (r := true)
  unfold laws_FnExactPatternsIn.f
  by_cases h1 : (a.length : Int) > 1048576
  · exact ev_pos h1 (ev_now rfl)
  exact ev_neg h1 (ev_bind (pi_spec_ev a n (len_max ha)) (ev_bind (pi_impl_ev a n (len_max ha)) (ev_pos ⟨rfl, piR_ok a n⟩ (ev_now rfl))))
end Go.Proofs.Ytlkddcabjcejdaa.Pure
