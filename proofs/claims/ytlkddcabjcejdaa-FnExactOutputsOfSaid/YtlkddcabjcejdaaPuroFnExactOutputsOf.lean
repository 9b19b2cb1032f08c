/- The pure statement of FnExactOutputsOf: program and reference put the same orders into the same sequence. No condition. -/
import Derived.Test.YtlkddcabjcejdaaMFnExactOutputsOfx8
import Derived.Test.YtlkddcabjcejdaaBase
import Derived.Test.YtlkddcabjcejdaaBaseP
import Derived.Test.YtlkddcabjcejdaaBaseS
import Derived.Test.YtlkddcabjcejdaaBaseW
import Derived.Test.YtlkddcabjcejdaaBaseR
import Derived.Test.YtlkddcabjcejdaaBaseF
import Derived.Test.YtlkddcabjcejdaaBaseD
import Derived.Test.YtlkddcabjcejdaaBaseY
import Derived.Test.YtlkddcabjcejdaaBaseZ
namespace Go.Proofs.Ytlkddcabjcejdaa.Pure
open Go Go.RowKit Go.Proofs.Ytlkddcabjcejdaa.MFnExactOutputsOf Go.Proofs.YtlkddcabjcejdaaW.PrintWords Go.Proofs.Ytlkddcabjcejdaa.Base
set_option linter.unusedVariables false
set_option linter.unusedSimpArgs false
/-! ### Is it an order? -/
theorem in_ev (a b c : Int) : Ev (fun _ => spec_l1In.f a b c) (decide (b ≤ a) && decide (a ≤ c)) := by
  unfold spec_l1In.f
  by_cases h : a ≥ b
  · refine ev_pos h (ev_now ?_)
    have : decide (b ≤ a) = true := decide_eq_true h
    rw [this]; rfl
  · refine ev_neg h (ev_now ?_)
    have : decide (b ≤ a) = false := decide_eq_false (by omega)
    rw [this]; rfl

theorem has_l (l : List Int) (x : Int) (hl : l.length ≤ 140737488351232) : ∀ (suf pre : List Int), l = pre ++ suf → Ev (fun k => spec_l1Has.l0 k l x (pre.length : Int)) (decide (x ∈ suf)) := by
  intro suf
  induction suf with
  | nil =>
    intro pre e
    have h := len_end e
    refine ev_succ ?_
    simp only [spec_l1Has.l0.eq_2]
    refine ev_neg (by omega) ?_
    exact ev_now (by simp)
  | cons c suf ih =>
    intro pre e
    have h := len_mid e
    refine ev_succ ?_
    simp only [spec_l1Has.l0.eq_2, rd_mid' e]
    refine ev_pos (by omega) (ev_pos (by omega) ?_)
    by_cases hc : c = x
    · exact ev_pos hc (ev_now (by simp [hc]))
    · refine ev_neg hc ?_
      rw [wrap_snoc (pre := pre) (c := c) (by omega)]
      refine ev_eq (ih _ (snoc_mid e)) ?_
      have : x ≠ c := fun h => hc h.symm
      simp [this]
theorem has_ev (l : List Int) (x : Int) (hl : l.length ≤ 140737488351232) : Ev (fun k => spec_l1Has.f k l x) (decide (x ∈ l)) := by
  unfold spec_l1Has.f
  exact has_l l x hl l [] rfl
theorem idx_l (l : List Int) (x : Int) (hl : l.length ≤ 140737488351232) : ∀ (suf pre : List Int), l = pre ++ suf → Ev (fun k => slices_Index_int_int.l0 k l x (l.length : Int) (pre.length : Int)) (if x ∈ suf then ((pre.length + suf.idxOf x : Nat) : Int) else -1) := by
  intro suf
  induction suf with
  | nil =>
    intro pre e
    have h := len_end e
    refine ev_succ ?_
    simp only [slices_Index_int_int.l0.eq_2]
    refine ev_neg (by omega) ?_
    exact ev_now (by simp)
  | cons c suf ih =>
    intro pre e
    have h := len_mid e
    refine ev_succ ?_
    simp only [slices_Index_int_int.l0.eq_2, rd_mid' e]
    refine ev_pos (by omega) (ev_pos (by omega) (ev_pos (by omega) ?_))
    by_cases hc : x = c
    · exact ev_pos hc (ev_now (by simp [hc]))
    · refine ev_neg hc ?_
      rw [wrap_snoc (pre := pre) (c := c) (by omega)]
      refine ev_eq (ih _ (snoc_mid e)) ?_
      have hc' : ¬ c = x := fun h => hc h.symm
      have hb : (c == x) = false := by simpa using hc'
      simp only [List.mem_cons, hc, false_or, List.idxOf_cons, hb, cond_false]
      by_cases hm : x ∈ suf
      · rw [if_pos hm, if_pos hm]; simp; omega
      · rw [if_neg hm, if_neg hm]
theorem idx_ev (l : List Int) (x : Int) (hl : l.length ≤ 140737488351232) : Ev (fun k => slices_Index_int_int.f k l x) (if x ∈ l then ((l.idxOf x : Nat) : Int) else -1) := by
  unfold slices_Index_int_int.f
  simpa using idx_l l x hl l [] rfl
theorem contains_ev (l : List Int) (x : Int) (hl : l.length ≤ 140737488351232) : Ev (fun k => slices_Contains_int_int.f k l x) (decide (x ∈ l)) := by
  unfold slices_Contains_int_int.f
  refine ev_bind (idx_ev l x hl) (ev_now ?_)
  by_cases h : x ∈ l
  · simp [h]
  · simp [h]


theorem spec_order_l (l : List Int) (hl : l.length ≤ 140737488351232) : ∀ (suf pre : List Int), l = pre ++ suf → Ev (fun k => spec_l2Order.l0 k l (pre.length : Int)) (ordGo (l.length : Int) pre suf) := by
  intro suf
  induction suf with
  | nil =>
    intro pre e
    have h := len_end e
    refine ev_succ ?_
    simp only [spec_l2Order.l0.eq_2]
    refine ev_neg (by omega) ?_
    exact ev_now rfl
  | cons c suf ih =>
    intro pre e
    have h := len_mid e
    refine ev_succ ?_
    simp only [spec_l2Order.l0.eq_2, rd_mid' e, take_mid e]
    refine ev_pos (by omega) (ev_pos (by omega) (ev_bind (in_ev _ _ _) ?_))
    by_cases hr : 1 ≤ c ∧ c ≤ (l.length : Int)
    · refine ev_pos (by simp [hr.1, hr.2]) (ev_pos (by omega) (ev_bind (has_ev pre c (by omega)) ?_))
      by_cases hc : c ∈ pre
      · exact ev_pos (by simp [hc]) (ev_now (by simp [ordGo, hc]))
      · refine ev_neg (by simp [hc]) ?_
        rw [wrap_snoc (pre := pre) (c := c) (by omega)]
        refine ev_eq (ih _ (snoc_mid e)) ?_
        simp [ordGo, hr.1, hr.2, hc]
    · refine ev_neg (by simp; omega) (ev_now ?_)
      simp only [ordGo]
      rw [if_neg (fun h => hr ⟨h.1, h.2.1⟩)]
theorem spec_order_ev (l : List Int) (hl : l.length ≤ 140737488351232) : Ev (fun k => spec_l2Order.f k l) (isOrd l) := by
  unfold spec_l2Order.f
  refine ev_bind (in_ev _ _ _) ?_
  unfold isOrd
  by_cases h : 1 ≤ l.length ∧ l.length ≤ 7
  · refine ev_pos (by simp; omega) ?_
    rw [if_pos h]
    exact spec_order_l l hl l [] rfl
  · refine ev_neg (by simp; omega) (ev_now ?_)
    rw [if_neg h]
theorem impl_order_l (l : List Int) (hl : l.length ≤ 140737488351232) : ∀ (suf pre : List Int), l = pre ++ suf → Ev (fun k => impl_isOrder.l0 k l l (l.length : Int) (pre.length : Int)) (ordGo (l.length : Int) pre suf) := by
  intro suf
  induction suf with
  | nil =>
    intro pre e
    have h := len_end e
    refine ev_succ ?_
    simp only [impl_isOrder.l0.eq_2]
    refine ev_neg (by omega) ?_
    exact ev_now rfl
  | cons c suf ih =>
    intro pre e
    have h := len_mid e
    refine ev_succ ?_
    simp only [impl_isOrder.l0.eq_2, rd_mid' e, take_mid e]
    refine ev_pos (by omega) (ev_pos (by omega) (ev_pos (by omega) ?_))
    by_cases h1 : c < 1
    · exact ev_pos h1 (ev_now (by simp only [ordGo]; rw [if_neg (fun h => by omega)]))
    refine ev_neg h1 ?_
    by_cases h2 : c > (l.length : Int)
    · exact ev_pos h2 (ev_now (by simp only [ordGo]; rw [if_neg (fun h => by omega)]))
    refine ev_neg h2 (ev_pos (by omega) (ev_bind (contains_ev pre c (by omega)) ?_))
    by_cases hc : c ∈ pre
    · exact ev_pos (by simp [hc]) (ev_now (by simp [ordGo, hc]))
    · refine ev_neg (by simp [hc]) ?_
      rw [wrap_snoc (pre := pre) (c := c) (by omega)]
      refine ev_eq (ih _ (snoc_mid e)) ?_
      simp only [ordGo]
      rw [if_pos ⟨by omega, by omega, hc⟩]
theorem impl_order_ev (l : List Int) (hl : l.length ≤ 140737488351232) : Ev (fun k => impl_isOrder.f k l) (isOrd l) := by
  have key : ∀ b : Bool, Ev (fun k => impl_isOrder.j0 k l b) (if b = true then false else ordGo (l.length : Int) [] l) := by
    intro b
    refine ev_succ ?_
    simp only [impl_isOrder.j0.eq_2]
    cases b with
    | true => exact ev_pos rfl (ev_now rfl)
    | false => exact ev_neg (by simp) (impl_order_l l hl l [] rfl)
  unfold impl_isOrder.f isOrd
  by_cases h1 : (l.length : Int) < 1
  · refine ev_pos h1 (ev_eq (key true) ?_)
    rw [if_pos rfl, if_neg (fun h => by omega)]
  · refine ev_neg h1 (ev_eq (key _) ?_)
    by_cases h2 : (l.length : Int) > 7
    · rw [if_neg (c := 1 ≤ l.length ∧ l.length ≤ 7) (fun h => by omega), if_pos (decide_eq_true h2)]
    · rw [if_pos (c := 1 ≤ l.length ∧ l.length ≤ 7) ⟨by omega, by omega⟩, if_neg (by simp; omega)]


theorem same_l (a b : List Int) (hl : a.length * 8 ≤ 140737488351232) : ∀ (s t pre q : List Int), a = pre ++ s → b = q ++ t → pre.length = q.length → s.length = t.length → Ev (fun k => spec_l1Same.l0 k a b (pre.length : Int)) (decide (s = t)) := by
  intro s
  induction s with
  | nil =>
    intro t pre q e e' h1 h2
    have h := len_end e
    obtain rfl : t = [] := by cases t with
      | nil => rfl
      | cons _ _ => simp at h2
    refine ev_succ ?_
    simp only [spec_l1Same.l0.eq_2]
    refine ev_neg (by omega) ?_
    exact ev_now (by simp)
  | cons c s ih =>
    intro t pre q e e' h1 h2
    cases t with
    | nil => simp at h2
    | cons d t =>
    have h := len_mid e
    have h' := len_mid e'
    refine ev_succ ?_
    have r1 := rd_mid' e
    have r2 := rd_mid' e'
    rw [← h1] at r2
    simp only [spec_l1Same.l0.eq_2, r1, r2]
    refine ev_pos (by omega) (ev_pos (by omega) (ev_pos (by omega) ?_))
    by_cases hc : c = d
    · refine ev_pos hc ?_
      rw [wrap_snoc (pre := pre) (c := c) (by omega)]
      refine ev_eq (ih t (pre ++ [c]) (q ++ [d]) (snoc_mid e) (snoc_mid e') (by simp [h1]) (by simpa using h2)) ?_
      simp [hc]
    · refine ev_neg hc (ev_now ?_)
      simp [hc]
theorem same_ev (a b : List Int) (hl : a.length * 8 ≤ 140737488351232) : Ev (fun k => spec_l1Same.f k a b) (decide (a = b)) := by
  unfold spec_l1Same.f
  by_cases h : a.length = b.length
  · refine ev_pos (by omega) ?_
    exact same_l a b hl a b [] [] rfl rfl rfl h
  · refine ev_neg (by omega) (ev_now ?_)
    symm
    exact decide_eq_false (fun e => h (by rw [e]))

/-! ### rows in ascending sequence, each once -/
def putL : List (List Int) → List Int → List (List Int)
  | [], x => [x]
  | c :: s, x => if ltL c x = true then c :: putL s x else if c = x then c :: s else x :: c :: s
abbrev Strict (l : List (List Int)) : Prop := l.Pairwise (fun a b => ltL a b = true)
theorem putL_mem : ∀ (rows : List (List Int)) (x y : List Int), y ∈ putL rows x ↔ y = x ∨ y ∈ rows := by
  intro rows
  induction rows with
  | nil => intro x y; simp [putL]
  | cons c s ih =>
    intro x y
    simp only [putL]
    by_cases h1 : ltL c x = true
    · rw [if_pos h1, List.mem_cons, ih, List.mem_cons]
      constructor
      · rintro (h | h | h)
        · exact .inr (.inl h)
        · exact .inl h
        · exact .inr (.inr h)
      · rintro (h | h | h)
        · exact .inr (.inl h)
        · exact .inl h
        · exact .inr (.inr h)
    · rw [if_neg h1]
      by_cases h2 : c = x
      · rw [if_pos h2]; subst h2; simp
      · rw [if_neg h2]; simp
theorem putL_strict : ∀ (rows : List (List Int)) (x : List Int), Strict rows → Strict (putL rows x) := by
  intro rows
  induction rows with
  | nil => intro x _; simp [putL, Strict]
  | cons c s ih =>
    intro x h
    obtain ⟨hc, hs⟩ := List.pairwise_cons.1 h
    simp only [putL]
    by_cases h1 : ltL c x = true
    · rw [if_pos h1]
      refine List.pairwise_cons.2 ⟨fun y hy => ?_, ih x hs⟩
      rcases (putL_mem s x y).1 hy with rfl | hy
      · exact h1
      · exact hc y hy
    · rw [if_neg h1]
      by_cases h2 : c = x
      · rw [if_pos h2]; exact h
      · rw [if_neg h2]
        have h3 : ltL x c = true := by
          cases hq : ltL x c with
          | true => rfl
          | false => exact absurd (ltL_total (by simpa using h1) hq) h2
        refine List.pairwise_cons.2 ⟨fun y hy => ?_, h⟩
        rcases List.mem_cons.1 hy with rfl | hy
        · exact h3
        · exact ltL_trans h3 (hc y hy)
theorem strict_ext : ∀ (a b : List (List Int)), Strict a → Strict b → (∀ y, y ∈ a ↔ y ∈ b) → a = b := by
  intro a
  induction a with
  | nil =>
    intro b _ _ h
    cases b with
    | nil => rfl
    | cons y t => exact absurd ((h y).2 (by simp)) (by simp)
  | cons x s ih =>
    intro b ha hb h
    cases b with
    | nil => exact absurd ((h x).1 (by simp)) (by simp)
    | cons y t =>
      obtain ⟨hx, hs⟩ := List.pairwise_cons.1 ha
      obtain ⟨hy, ht⟩ := List.pairwise_cons.1 hb
      have hxy : x = y := by
        rcases List.mem_cons.1 ((h x).1 (by simp)) with e | e
        · exact e
        · rcases List.mem_cons.1 ((h y).2 (by simp)) with e' | e'
          · exact e'.symm
          · have := ltL_trans (hx y e') (hy x e)
            rw [ltL_irrefl] at this; cases this
      subst hxy
      refine congrArg (x :: ·) (ih t hs ht (fun z => ⟨fun hz => ?_, fun hz => ?_⟩))
      · rcases List.mem_cons.1 ((h z).1 (by simp [hz])) with e | e
        · subst e; have := hx z hz; rw [ltL_irrefl] at this; cases this
        · exact e
      · rcases List.mem_cons.1 ((h z).2 (by simp [hz])) with e | e
        · subst e; have := hy z hz; rw [ltL_irrefl] at this; cases this
        · exact e
theorem thinG_mem : ∀ (s : List (List Int)) (p y : List Int), y ∈ p :: thinG p s ↔ y ∈ p :: s := by
  intro s
  induction s with
  | nil => intro p y; rfl
  | cons c s ih =>
    intro p y
    simp only [thinG]
    by_cases h : c = p
    · rw [if_pos h]
      subst h
      rw [ih c y]
      simp
    · rw [if_neg h]
      have := ih c y
      simp only [List.mem_cons] at this ⊢
      constructor
      · rintro (h1 | h1)
        · exact .inl h1
        · exact .inr (this.1 h1)
      · rintro (h1 | h1)
        · exact .inl h1
        · exact .inr (this.2 h1)
theorem tidyG_mem (rows : List (List Int)) (y : List Int) : y ∈ tidyG rows ↔ y ∈ rows := by
  unfold tidyG
  rw [← (sortG_perm rows).mem_iff]
  cases sortG rows with
  | nil => rfl
  | cons c s => exact thinG_mem s c y
theorem thinG_strict : ∀ (s : List (List Int)) (p : List Int), (p :: s).Pairwise (fun x y => ltL y x = false) → Strict (p :: thinG p s) := by
  intro s
  induction s with
  | nil => intro p _; simp [thinG, Strict]
  | cons c s ih =>
    intro p h
    obtain ⟨hp, hcs⟩ := List.pairwise_cons.1 h
    have hcs' := ih c hcs
    simp only [thinG]
    by_cases e : c = p
    · rw [if_pos e]
      subst e
      exact hcs'
    · rw [if_neg e]
      have hlt : ltL p c = true := by
        cases hq : ltL p c with
        | true => rfl
        | false => exact absurd (ltL_total (hp c (by simp)) hq) e
      refine List.pairwise_cons.2 ⟨fun y hy => ?_, hcs'⟩
      rcases List.mem_cons.1 hy with rfl | hy
      · exact hlt
      · exact ltL_trans hlt ((List.pairwise_cons.1 hcs').1 y hy)
theorem tidyG_strict (rows : List (List Int)) : Strict (tidyG rows) := by
  unfold tidyG
  have h := sortG_sorted rows
  cases hq : sortG rows with
  | nil => simp [compactG, Strict]
  | cons c s => rw [hq] at h; exact thinG_strict s c h
def putAllL (rows : List (List Int)) : List (List Int) := rows.foldl putL []
theorem putAll_gen : ∀ (rows acc : List (List Int)), Strict acc → Strict (rows.foldl putL acc) ∧ ∀ y, y ∈ rows.foldl putL acc ↔ y ∈ acc ∨ y ∈ rows := by
  intro rows
  induction rows with
  | nil => intro acc h; exact ⟨h, fun y => by simp⟩
  | cons c s ih =>
    intro acc h
    obtain ⟨h1, h2⟩ := ih (putL acc c) (putL_strict acc c h)
    refine ⟨h1, fun y => ?_⟩
    rw [List.foldl_cons, h2, putL_mem, List.mem_cons]
    constructor
    · rintro ((h | h) | h)
      · exact .inr (.inl h)
      · exact .inl h
      · exact .inr (.inr h)
    · rintro (h | h | h)
      · exact .inl (.inr h)
      · exact .inl (.inl h)
      · exact .inr h
theorem putAll_tidy (rows : List (List Int)) : rows.foldl putL [] = tidyG rows := by
  obtain ⟨h1, h2⟩ := putAll_gen rows [] (by simp [Strict])
  exact strict_ext _ _ h1 (tidyG_strict rows) (fun y => by rw [h2, tidyG_mem]; simp)

/-! ### l2Before, l2PutOrder -/
theorem ltL_cons (c d : Int) (s t : List Int) : ltL (c :: s) (d :: t) = if c < d then true else if d < c then false else ltL s t := by
  unfold ltL
  have e : lexC (c :: s) (d :: t) = if c < d then -1 else if d < c then 1 else lexC s t := rfl
  rw [e]
  by_cases h1 : c < d
  · simp [h1]
  · by_cases h2 : d < c
    · simp [h1, h2]
    · simp [h1, h2]
theorem before_l (a b : List Int) (ha : a.length ≤ 1000) (hab : a.length = b.length) : ∀ (s t pre q : List Int), a = pre ++ s → b = q ++ t → pre.length = q.length → Ev (fun k => spec_l2Before.l0 k a b (pre.length : Int)) (ltL s t) := by
  intro s
  induction s with
  | nil =>
    intro t pre q e e' h1
    have h := len_end e
    obtain rfl : t = [] := by
      have : b.length = q.length + t.length := by rw [e']; simp
      have : t.length = 0 := by omega
      exact List.length_eq_zero_iff.1 this
    refine ev_succ ?_
    simp only [spec_l2Before.l0.eq_2]
    exact ev_neg (by omega) (ev_now rfl)
  | cons c s ih =>
    intro t pre q e e' h1
    have h := len_mid e
    cases t with
    | nil =>
      have := len_end (xs := b) (pre := q) (by simpa using e')
      omega
    | cons d t =>
    have h' := len_mid e'
    refine ev_succ ?_
    have r1 := rd_mid' e
    have r2 := rd_mid' e'
    rw [← h1] at r2
    simp only [spec_l2Before.l0.eq_2, r1, r2]
    refine ev_pos (by omega) (ev_pos (by omega) (ev_pos (by omega) ?_))
    by_cases hc : c = d
    · refine ev_pos hc ?_
      rw [wrap_snoc (pre := pre) (c := c) (by omega)]
      refine ev_eq (ih t (pre ++ [c]) (q ++ [d]) (snoc_mid e) (snoc_mid e') (by simp [h1])) ?_
      rw [ltL_cons, if_neg (by omega), if_neg (by omega)]
    · refine ev_neg hc (ev_now ?_)
      rw [ltL_cons]
      by_cases h1 : c < d
      · rw [if_pos h1]; simp [h1]
      · rw [if_neg h1, if_pos (by omega)]; simp [h1]
theorem before_ev (a b : List Int) (ha : a.length ≤ 1000) (hab : a.length = b.length) : Ev (fun k => spec_l2Before.f k a b) (ltL a b) := by
  unfold spec_l2Before.f
  exact before_l a b ha hab a b [] [] rfl rfl rfl
theorem put_l (L : Nat) (hL : L ≤ 1000) (rows : List (List Int)) (x : List Int) (hr : rows.length ≤ 1000000) (hx : x.length = L) (hrl : ∀ y ∈ rows, y.length = L) : ∀ (suf pre : List (List Int)), rows = pre ++ suf → Ev (fun k => spec_l2PutOrder.l0 k rows x (pre.length : Int)) (pre ++ putL suf x) := by
  intro suf
  induction suf with
  | nil =>
    intro pre e
    have h := len_end e
    refine ev_succ ?_
    simp only [spec_l2PutOrder.l0.eq_2]
    have ht : rows.take ((pre.length : Int)).toNat = pre := take_mid e
    have hd : rows.drop ((pre.length : Int)).toNat = [] := by rw [e]; simp
    refine ev_neg (by omega) (ev_let (ev_pos (by omega) (ev_pos (by omega) (ev_let ?_))))
    rw [ht, hd]
    refine ev_pos (by simp; omega) (ev_let (ev_let (ev_pos (by simp; omega) (ev_let (ev_let (ev_pos (by simp; omega) (ev_now ?_)))))))
    simp [putL]
  | cons c suf ih =>
    intro pre e
    have h := len_mid e
    have hrd : rd_L1 rows (pre.length : Int) = c := by rw [e]; simp [rd_L1]
    have hcl := hrl c (by rw [e]; simp)
    have ht : rows.take ((pre.length : Int)).toNat = pre := take_mid e
    have hd : rows.drop ((pre.length : Int)).toNat = c :: suf := by rw [e]; simp
    refine ev_succ ?_
    simp only [spec_l2PutOrder.l0.eq_2, hrd]
    refine ev_pos (by omega) (ev_pos (by omega) (ev_bind (before_ev c x (by omega) (by omega)) ?_))
    simp only [putL]
    by_cases h1 : ltL c x = true
    · rw [if_pos h1]
      refine ev_pos h1 ?_
      rw [wrap_snoc (pre := pre) (c := c) (by omega)]
      refine ev_eq (ih (pre ++ [c]) (snoc_mid e)) ?_
      simp
    · rw [if_neg h1]
      refine ev_neg h1 (ev_bind (same_ev c x (by omega)) ?_)
      by_cases h2 : c = x
      · rw [if_pos h2]
        exact ev_pos (by simp [h2]) (ev_now (by rw [e]))
      · rw [if_neg h2]
        refine ev_neg (by simp [h2]) (ev_let (ev_pos (by omega) (ev_let ?_)))
        rw [ht, hd]
        refine ev_pos (by simp; omega) (ev_let (ev_let (ev_pos (by simp; omega) (ev_let (ev_let (ev_pos (by simp; omega) (ev_now ?_)))))))
        simp
theorem put_ev (L : Nat) (hL : L ≤ 1000) (rows : List (List Int)) (x : List Int) (hr : rows.length ≤ 1000000) (hx : x.length = L) (hrl : ∀ y ∈ rows, y.length = L) : Ev (fun k => spec_l2PutOrder.f k rows x) (putL rows x) := by
  unfold spec_l2PutOrder.f
  exact put_l L hL rows x hr hx hrl rows [] rfl
theorem putL_len (rows : List (List Int)) (x : List Int) : (putL rows x).length ≤ rows.length + 1 := by
  induction rows with
  | nil => simp [putL]
  | cons c s ih =>
    simp only [putL]
    split
    · simp; omega
    · split <;> simp

/-! ### what comes out by a word -/
theorem spec_run_l (l : List Int) (w : ByteArray) (hl : l.length ≤ 7) (hw : w.size ≤ 14) : ∀ (suf pre rem done st out : List Int), bytesOf w = pre ++ suf → l = done ++ rem → wGo suf (st.length : Int) = true → suf.length = 2 * rem.length + st.length → out.length + st.length ≤ 7 → done.length = out.length + st.length → Ev (fun k => spec_l2Run.l0 k l w out.reverse st.reverse (done.length : Int) (pre.length : Int)) (runGo suf rem st out) := by
  intro suf
  induction suf with
  | nil =>
    intro pre rem done st out e el hg h2 h3 h4
    have h := size_end e
    refine ev_succ ?_
    simp only [spec_l2Run.l0.eq_2]
    exact ev_neg (by omega) (ev_now (by simp [runGo]))
  | cons c suf ih =>
    intro pre rem done st out e el hg h2 h3 h4
    have h := size_mid e
    simp only [List.length_cons] at h2
    refine ev_succ ?_
    simp only [spec_l2Run.l0.eq_2, bt_mid e]
    rw [wrap_snoc (pre := pre) (c := c) (by omega)]
    refine ev_pos (by omega) (ev_pos (by omega) ?_)
    by_cases hI : c = 73
    · subst hI
      rw [wGo_in] at hg
      have hlen := wGo_len _ _ (by omega) hg
      cases rem with
      | nil => simp only [List.length_nil] at h2; omega
      | cons x rem =>
        have hd := len_mid el
        simp only [List.length_cons] at h2
        rw [rd_mid' el, wrap_snoc (pre := done) (c := x) (by omega), show st.reverse ++ [x] = (x :: st).reverse by simp]
        refine ev_pos rfl (ev_pos (by omega) (ev_pos (by omega) (ev_pos (by simp; omega) ?_)))
        refine ev_eq (ih _ rem (done ++ [x]) (x :: st) out (snoc_mid e) (snoc_mid el) ?_ ?_ ?_ ?_) ?_
        · simpa using hg
        · simp only [List.length_cons]; omega
        · simp only [List.length_cons]; omega
        · simp; omega
        · simp [runGo]
    · by_cases hO : c = 79
      · subst hO
        rw [wGo_out] at hg
        by_cases hd : (st.length : Int) > 0
        · rw [if_pos hd] at hg
          cases st with
          | nil => simp at hd
          | cons x st =>
            simp only [List.length_cons] at hg h2 h3 h4
            have hlen : ((x :: st).reverse.length : Int) = st.length + 1 := by simp
            rw [wrap_of (x := ((x :: st).reverse.length : Int) - 1) (by omega) (by omega), top_rev, pop_rev, show out.reverse ++ [x] = (x :: out).reverse by simp]
            refine ev_neg hI (ev_pos (by omega) (ev_pos (by omega) (ev_pos (by simp; omega) (ev_pos (by omega) ?_))))
            refine ev_eq (ih _ rem done st (x :: out) (snoc_mid e) el ?_ ?_ ?_ ?_) ?_
            · rw [show ((st.length : Nat) : Int) = ((st.length + 1 : Nat) : Int) - 1 by omega]; exact hg
            · omega
            · simp only [List.length_cons]; omega
            · simp only [List.length_cons]; omega
            · simp [runGo]
        · rw [if_neg hd] at hg; cases hg
      · simp only [wGo] at hg
        rw [if_neg hI, if_neg hO] at hg; cases hg
theorem spec_run_ev (l : List Int) (w : ByteArray) (hl : l.length ≤ 7) (hg : wGo (bytesOf w) 0 = true) (hw : w.size = 2 * l.length) : Ev (fun k => spec_l2Run.f k l w) (runL l (bytesOf w)) := by
  unfold spec_l2Run.f
  exact spec_run_l l w hl (by omega) (bytesOf w) [] l [] [] [] rfl rfl (by simpa using hg) (by rw [bytes_len]; simp; omega) (by simp) (by simp)

theorem impl_run_l (w : ByteArray) (hw : w.size ≤ 14) : ∀ (suf pre rem st out : List Int), bytesOf w = pre ++ suf → wGo suf (st.length : Int) = true → suf.length = 2 * rem.length + st.length → out.length + st.length + rem.length ≤ 7 → Ev (fun k => impl_runWord.l0 k rem w st.reverse out.reverse (w.size : Int) (pre.length : Int)) (runGo suf rem st out) := by
  intro suf
  induction suf with
  | nil =>
    intro pre rem st out e hg h2 h3
    have h := size_end e
    refine ev_succ ?_
    simp only [impl_runWord.l0.eq_2]
    exact ev_neg (by omega) (ev_now (by simp [runGo]))
  | cons c suf ih =>
    intro pre rem st out e hg h2 h3
    have h := size_mid e
    simp only [List.length_cons] at h2
    refine ev_succ ?_
    simp only [impl_runWord.l0.eq_2, bt_mid e]
    rw [wrap_snoc (pre := pre) (c := c) (by omega)]
    refine ev_pos (by omega) (ev_pos (by omega) (ev_pos (by omega) ?_))
    by_cases hI : c = 73
    · subst hI
      rw [wGo_in] at hg
      have hlen := wGo_len _ _ (by omega) hg
      cases rem with
      | nil => simp only [List.length_nil] at h2; omega
      | cons x rem =>
        simp only [List.length_cons] at h2 h3
        rw [show rd (x :: rem) 0 = x from rfl, show st.reverse ++ [x] = (x :: st).reverse by simp, show (x :: rem).drop 1 = rem from rfl]
        refine ev_pos rfl (ev_pos (by simp only [List.length_cons]; omega) (ev_pos (by simp; omega) (ev_pos (by simp only [List.length_cons]; omega) ?_)))
        refine ev_eq (ih _ rem (x :: st) out (snoc_mid e) ?_ ?_ ?_) ?_
        · simpa using hg
        · simp only [List.length_cons]; omega
        · simp only [List.length_cons]; omega
        · simp [runGo]
    · by_cases hO : c = 79
      · subst hO
        rw [wGo_out] at hg
        by_cases hd : (st.length : Int) > 0
        · rw [if_pos hd] at hg
          cases st with
          | nil => simp at hd
          | cons x st =>
            simp only [List.length_cons] at hg h2 h3
            have hlen : ((x :: st).reverse.length : Int) = st.length + 1 := by simp
            rw [wrap_of (x := ((x :: st).reverse.length : Int) - 1) (by omega) (by omega), top_rev, pop_rev, show out.reverse ++ [x] = (x :: out).reverse by simp]
            refine ev_neg hI (ev_pos (by omega) (ev_pos (by omega) (ev_pos (by simp; omega) (ev_pos (by omega) ?_))))
            refine ev_eq (ih _ rem st (x :: out) (snoc_mid e) ?_ ?_ ?_) ?_
            · rw [show ((st.length : Nat) : Int) = ((st.length + 1 : Nat) : Int) - 1 by omega]; exact hg
            · omega
            · simp only [List.length_cons]; omega
            · simp [runGo]
        · rw [if_neg hd] at hg; cases hg
      · simp only [wGo] at hg
        rw [if_neg hI, if_neg hO] at hg; cases hg
theorem impl_run_ev (l : List Int) (w : ByteArray) (hl : l.length ≤ 7) (hg : wGo (bytesOf w) 0 = true) (hw : w.size = 2 * l.length) : Ev (fun k => impl_runWord.f k l w) (runL l (bytesOf w)) := by
  unfold impl_runWord.f
  exact impl_run_l w (by omega) (bytesOf w) [] l [] [] rfl (by simpa using hg) (by rw [bytes_len]; simp; omega) (by simp; omega)

/-! ### l2Words, words -/
theorem spec_words_r : ∀ (r a b n : Nat) (so : List Int), a + b = r → a ≤ b → so.length + r = 2 * n → n ≤ 7 → Ev (fun k => spec_l2Words.f k (strOfNums so) ((b - a : Nat) : Int) (n : Int)) ((wordsC r a b).map (fun w => strOfNums (so ++ w))) := by
  intro r
  induction r with
  | zero =>
    intro a b n so h1 h2 h3 h4
    refine ev_succ ?_
    simp only [spec_l2Words.f.eq_2]
    refine ev_let ?_
    rw [wrap_of (by omega) (by omega), str_size]
    exact ev_pos (by omega) (ev_now (by simp [wordsC]))
  | succ r ih =>
    intro a b n so h1 h2 h3 h4
    refine ev_succ ?_
    simp only [spec_l2Words.f.eq_2]
    refine ev_let ?_
    rw [wrap_of (x := 2 * (n : Int)) (by omega) (by omega), str_size, wrap_of (x := 2 * (n : Int) - (so.length : Int)) (by omega) (by omega)]
    have hl1 := wordsC_length r (a - 1) b
    have hl2 := wordsC_length r a (b - 1)
    have hp : (2 : Nat) ^ r ≤ 2 ^ 14 := Nat.pow_le_pow_right (by omega) (by omega)
    have h14 : (2 : Nat) ^ 14 = 16384 := by decide
    refine ev_neg (by omega) ?_
    have hO : b > a → Ev (fun k => spec_l2Words.f k (strOfNums so ++ (⟨#[79]⟩ : ByteArray)) (wrap64 (((b - a : Nat) : Int) - 1)) (n : Int)) ((wordsC r a (b - 1)).map (fun w => strOfNums (so ++ 79 :: w))) := by
      intro hba
      rw [str_snocO, wrap_of (by omega) (by omega), show ((b - a : Nat) : Int) - 1 = ((b - 1 - a : Nat) : Int) by omega]
      refine ev_eq (ih a (b - 1) n (so ++ [79]) (by omega) (by omega) (by simp; omega) h4) ?_
      simp
    by_cases ha : a > 0
    · refine ev_pos (by omega) (ev_pos (by omega) ?_)
      have hI : Ev (fun k => spec_l2Words.f k (strOfNums so ++ (⟨#[73]⟩ : ByteArray)) (wrap64 (((b - a : Nat) : Int) + 1)) (n : Int)) ((wordsC r (a - 1) b).map (fun w => strOfNums (so ++ 73 :: w))) := by
        rw [str_snocI, wrap_of (by omega) (by omega), show ((b - a : Nat) : Int) + 1 = ((b - (a - 1) : Nat) : Int) by omega]
        refine ev_eq (ih (a - 1) b n (so ++ [73]) (by omega) (by omega) (by simp; omega) h4) ?_
        simp
      refine ev_bind hI (ev_pos (by simp; omega) (ev_let ?_))
      by_cases hb : b > a
      · refine ev_pos (by omega) (ev_bind (hO hb) (ev_pos (by simp; omega) (ev_now ?_)))
        simp [wordsC, ha, hb, List.map_map, Function.comp_def]
      · refine ev_neg (by omega) (ev_now ?_)
        simp [wordsC, ha, hb, List.map_map, Function.comp_def]
    · refine ev_neg (by omega) ?_
      by_cases hb : b > a
      · refine ev_pos (by omega) (ev_pos (by omega) (ev_bind (hO hb) (ev_pos (by simp; omega) (ev_now ?_))))
        simp [wordsC, ha, hb, List.map_map, Function.comp_def]
      · omega
theorem impl_words_r : ∀ (r a b : Nat) (so : List Int) (list : List ByteArray), a + b = r → a ≤ b → so.length + r ≤ 14 → list.length + 2 ^ r ≤ 1048576 → Ev (fun k => impl_words.f k (strOfNums so) (a : Int) (b : Int) list) (list ++ (wordsC r a b).map (fun w => strOfNums (so ++ w))) := by
  intro r
  induction r with
  | zero =>
    intro a b so list h1 h2 h3 h4
    refine ev_succ ?_
    simp only [impl_words.f.eq_2]
    refine ev_pos (by omega) (ev_succ ?_)
    simp only [impl_words.j0.eq_2]
    exact ev_pos (by simp; omega) (ev_pos (by omega) (ev_now (by simp [wordsC])))
  | succ r ih =>
    intro a b so list h1 h2 h3 h4
    have hp : (2 : Nat) ^ (r + 1) = 2 ^ r + 2 ^ r := by rw [Nat.pow_succ]; omega
    have hl1 := wordsC_length r (a - 1) b
    have key : ∀ q : Bool, q = false → Ev (fun k => impl_words.j0 k (strOfNums so) (a : Int) (b : Int) list q) (list ++ (wordsC (r + 1) a b).map (fun w => strOfNums (so ++ w))) := by
      intro q hq
      refine ev_succ ?_
      simp only [impl_words.j0.eq_2]
      refine ev_neg (by simp [hq]) ?_
      rw [str_size]
      have hO : b > a → ∀ l2 : List ByteArray, l2.length + 2 ^ r ≤ 1048576 → Ev (fun k => impl_words.f k (strOfNums so ++ (⟨#[79]⟩ : ByteArray)) (a : Int) (wrap64 ((b : Int) - 1)) l2) (l2 ++ (wordsC r a (b - 1)).map (fun w => strOfNums (so ++ 79 :: w))) := by
        intro hba l2 hl2
        rw [str_snocO, wrap_of (by omega) (by omega), show (b : Int) - 1 = ((b - 1 : Nat) : Int) by omega]
        refine ev_eq (ih a (b - 1) (so ++ [79]) l2 (by omega) (by omega) (by simp; omega) hl2) ?_
        simp
      by_cases ha : a > 0
      · refine ev_pos (by omega) (ev_pos (by omega) ?_)
        have hI : Ev (fun k => impl_words.f k (strOfNums so ++ (⟨#[73]⟩ : ByteArray)) (wrap64 ((a : Int) - 1)) (b : Int) list) (list ++ (wordsC r (a - 1) b).map (fun w => strOfNums (so ++ 73 :: w))) := by
          rw [str_snocI, wrap_of (by omega) (by omega), show (a : Int) - 1 = ((a - 1 : Nat) : Int) by omega]
          refine ev_eq (ih (a - 1) b (so ++ [73]) list (by omega) (by omega) (by simp; omega) (by omega)) ?_
          simp
        refine ev_bind hI ?_
        by_cases hb : b > a
        · refine ev_pos (by omega) (ev_bind (hO hb _ (by simp; omega)) (ev_now ?_))
          simp [wordsC, ha, hb, List.map_map, Function.comp_def]
        · refine ev_neg (by omega) (ev_now ?_)
          simp [wordsC, ha, hb, List.map_map, Function.comp_def]
      · refine ev_neg (by omega) ?_
        by_cases hb : b > a
        · refine ev_pos (by omega) (ev_pos (by omega) (ev_bind (hO hb _ (by omega)) (ev_now ?_)))
          simp [wordsC, ha, hb, List.map_map, Function.comp_def]
        · omega
    refine ev_succ ?_
    simp only [impl_words.f.eq_2]
    by_cases ha : (a : Int) = 0
    · exact ev_pos ha (key _ (by simp; omega))
    · exact ev_neg ha (key _ rfl)

/-! ### OutputsOf -/
theorem wordsC_mem : ∀ (r a b : Nat) (w : List Int), a + b = r → a ≤ b → w ∈ wordsC r a b → w.length = r ∧ wGo w ((b - a : Nat) : Int) = true ∧ ∀ c ∈ w, 0 ≤ c ∧ c ≤ 255 := by
  intro r
  induction r with
  | zero =>
    intro a b w h1 h2 h
    simp [wordsC] at h
    subst h
    refine ⟨rfl, ?_, fun _ h => by cases h⟩
    rw [show b - a = 0 by omega]; rfl
  | succ r ih =>
    intro a b w h1 h2 h
    simp only [wordsC, List.mem_append] at h
    rcases h with h | h
    · by_cases ha : a > 0
      · rw [if_pos ha] at h
        obtain ⟨v, hv, rfl⟩ := List.mem_map.1 h
        obtain ⟨q1, q2, q3⟩ := ih (a - 1) b v (by omega) (by omega) hv
        refine ⟨by simp [q1], ?_, fun c hc => ?_⟩
        · rw [wGo_in, show ((b - a : Nat) : Int) + 1 = ((b - (a - 1) : Nat) : Int) by omega]; exact q2
        · rcases List.mem_cons.1 hc with rfl | hc
          · omega
          · exact q3 c hc
      · rw [if_neg ha] at h; cases h
    · by_cases hb : b > a
      · rw [if_pos hb] at h
        obtain ⟨v, hv, rfl⟩ := List.mem_map.1 h
        obtain ⟨q1, q2, q3⟩ := ih a (b - 1) v (by omega) (by omega) hv
        refine ⟨by simp [q1], ?_, fun c hc => ?_⟩
        · rw [wGo_out, if_pos (by omega), show ((b - a : Nat) : Int) - 1 = ((b - 1 - a : Nat) : Int) by omega]; exact q2
        · rcases List.mem_cons.1 hc with rfl | hc
          · omega
          · exact q3 c hc
      · rw [if_neg hb] at h; cases h
theorem bytes_strOf {w : List Int} (h : ∀ c ∈ w, 0 ≤ c ∧ c ≤ 255) : bytesOf (strOfNums w) = w := by
  unfold bytesOf strOfNums
  simp only [List.map_map]
  have : ∀ c ∈ w, ((fun b : UInt8 => (b.toNat : Int)) ∘ fun x : Int => UInt8.ofNat x.toNat) c = id c := by
    intro c hc
    have := h c hc
    simp only [Function.comp, id]
    rw [UInt8.toNat_ofNat']
    omega
  rw [List.map_congr_left this, List.map_id]
theorem runGo_len : ∀ (suf rem st out : List Int), wGo suf (st.length : Int) = true → suf.length = 2 * rem.length + st.length → (runGo suf rem st out).length = out.length + st.length + rem.length := by
  intro suf
  induction suf with
  | nil =>
    intro rem st out hg h2
    simp only [List.length_nil] at h2
    simp [runGo]; omega
  | cons c suf ih =>
    intro rem st out hg h2
    simp only [List.length_cons] at h2
    by_cases hI : c = 73
    · subst hI
      rw [wGo_in] at hg
      have hlen := wGo_len _ _ (by omega) hg
      cases rem with
      | nil => simp only [List.length_nil] at h2; omega
      | cons x rem =>
        simp only [List.length_cons] at h2
        have := ih rem (x :: st) out (by simpa using hg) (by simp only [List.length_cons]; omega)
        simp only [runGo, if_true, List.tail_cons, List.headD_cons]
        rw [this]; simp only [List.length_cons]; omega
    · by_cases hO : c = 79
      · subst hO
        rw [wGo_out] at hg
        by_cases hd : (st.length : Int) > 0
        · rw [if_pos hd] at hg
          cases st with
          | nil => simp at hd
          | cons x st =>
            simp only [List.length_cons] at hg h2
            have := ih rem st (x :: out) (by rw [show ((st.length : Nat) : Int) = ((st.length + 1 : Nat) : Int) - 1 by omega]; exact hg) (by omega)
            simp only [runGo, if_neg hI, List.tail_cons, List.headD_cons]
            rw [this]; simp only [List.length_cons]; omega
        · rw [if_neg hd] at hg; cases hg
      · simp only [wGo] at hg
        rw [if_neg hI, if_neg hO] at hg; cases hg
def wsL (n : Nat) : List (List Int) := wordsC (n + n) n n
def outL (o : List Int) : List (List Int) := (wsL o.length).map (runL o)
theorem wsL_mem {n : Nat} {w : List Int} (h : w ∈ wsL n) : w.length = 2 * n ∧ wGo w 0 = true ∧ ∀ c ∈ w, 0 ≤ c ∧ c ≤ 255 := by
  obtain ⟨h1, h2, h3⟩ := wordsC_mem (n + n) n n w rfl (Nat.le_refl _) h
  exact ⟨by omega, by rw [show n - n = 0 by omega] at h2; exact h2, h3⟩
theorem run_len {o w : List Int} (h : w ∈ wsL o.length) : (runL o w).length = o.length := by
  obtain ⟨h1, h2, _⟩ := wsL_mem h
  unfold runL
  rw [runGo_len w o [] [] (by simpa using h2) (by simp; omega)]; simp
theorem wsL_len {n : Nat} (h : n ≤ 7) : (wsL n).length ≤ 16384 := by
  have h1 := wordsC_length (n + n) n n
  have h2 : (2 : Nat) ^ (n + n) ≤ 2 ^ 14 := Nat.pow_le_pow_right (by omega) (by omega)
  have h3 : (2 : Nat) ^ 14 = 16384 := by decide
  unfold wsL; omega
theorem outL_len {o : List Int} : ∀ y ∈ outL o, y.length = o.length := by
  intro y hy
  obtain ⟨w, hw, rfl⟩ := List.mem_map.1 hy
  exact run_len hw
theorem impl_outputs_l (o : List Int) (ho : o.length ≤ 7) (R : List (List Int)) : ∀ (suf pre : List (List Int)), wsL o.length = pre ++ suf → impl_tidied.f (outL o) = some R → Ev (fun k => impl_outputs.l0 k o (pre.map (runL o)) ((wsL o.length).map strOfNums) (((wsL o.length).map strOfNums).length : Int) (pre.length : Int)) R := by
  intro suf
  induction suf with
  | nil =>
    intro pre e ht
    have h : (((wsL o.length).map strOfNums).length : Int) = pre.length := by rw [List.length_map]; exact len_end e
    refine ev_succ ?_
    simp only [impl_outputs.l0.eq_2]
    refine ev_neg (by omega) (ev_bind (ev_const (r := R) ?_) (ev_now rfl))
    rw [← ht]; unfold outL; rw [e]; simp
  | cons w suf ih =>
    intro pre e ht
    have h : (((wsL o.length).map strOfNums).length : Int) = pre.length + 1 + suf.length := by rw [List.length_map]; exact len_mid e
    have hl := wsL_len ho
    have hpl : pre.length ≤ 16384 := by have := congrArg List.length e; simp at this; omega
    obtain ⟨hw1, hw2, hw3⟩ := wsL_mem (n := o.length) (w := w) (by rw [e]; simp)
    have hrd : rdOf ByteArray.empty ((wsL o.length).map strOfNums) (pre.length : Int) = strOfNums w := by rw [e]; simp [rdOf]
    have hsz : (strOfNums w).size = 2 * o.length := by rw [← bytes_len, bytes_strOf hw3]; exact hw1
    have hrun := impl_run_ev o (strOfNums w) ho (by rw [bytes_strOf hw3]; exact hw2) hsz
    rw [bytes_strOf hw3] at hrun
    refine ev_succ ?_
    simp only [impl_outputs.l0.eq_2, hrd]
    rw [wrap_snoc (pre := pre) (c := w) (by omega)]
    refine ev_pos (by omega) (ev_pos (by omega) (ev_pos (by omega) (ev_bind hrun (ev_pos (by simp; omega) ?_))))
    have := ih (pre ++ [w]) (snoc_mid e) ht
    rw [List.map_append] at this
    exact this
theorem outL_tidied {o : List Int} (ho : o.length ≤ 7) : impl_tidied.f (outL o) = some (tidyG (outL o)) := by
  unfold impl_tidied.f
  have hl := wsL_len ho
  rw [if_pos ⟨by unfold outL; rw [List.length_map]; omega, fun x hx => by rw [outL_len x hx]; omega, fun x hx y hy => by rw [outL_len x hx, outL_len y hy]⟩]
theorem impl_outputs_ev (o : List Int) (h : isOrd o = true) : Ev (fun k => impl_outputs.f k o) (tidyG (outL o)) := by
  unfold impl_outputs.f
  have hl := ord_len h
  have h2 : (2 : Nat) ^ (o.length + o.length) ≤ 2 ^ 14 := Nat.pow_le_pow_right (by omega) (by omega)
  have h3 : (2 : Nat) ^ 14 = 16384 := by decide
  have hw := impl_words_r (o.length + o.length) o.length o.length [] [] rfl (Nat.le_refl _) (by simp; omega) (by simp; omega)
  rw [str_nil] at hw
  refine ev_bind (a := (wsL o.length).map strOfNums) (by simpa [wsL] using hw) ?_
  exact impl_outputs_l o hl.2 _ (wsL o.length) [] rfl (outL_tidied hl.2)
def opR (o : List Int) : List (List Int) × Bool := onOrd o [] (tidyG (outL o))
theorem op_impl_ev (o : List Int) (hl : o.length ≤ 140737488351232) : Ev (fun k => impl_OutputsOf.f k o) (opR o) := by
  unfold impl_OutputsOf.f opR
  by_cases h1 : isOrd o = true
  · rw [onOrd_pos h1]
    exact ev_bind (impl_order_ev o hl) (ev_pos h1 (ev_bind (impl_outputs_ev o h1) (ev_now rfl)))
  · rw [onOrd_neg h1]
    exact ev_bind (impl_order_ev o hl) (ev_neg h1 (ev_now rfl))
theorem putAll_bound : ∀ (rows acc : List (List Int)), (rows.foldl putL acc).length ≤ acc.length + rows.length := by
  intro rows
  induction rows with
  | nil => intro acc; simp
  | cons c s ih =>
    intro acc
    rw [List.foldl_cons]
    have := ih (putL acc c)
    have := putL_len acc c
    simp only [List.length_cons]; omega
theorem tidy_bound (rows : List (List Int)) : (tidyG rows).length ≤ rows.length := by
  have := putAll_bound rows []
  rw [putAll_tidy] at this
  simpa using this
theorem spec_outputs_l (o : List Int) (ho : o.length ≤ 7) : ∀ (suf pre : List (List Int)), wsL o.length = pre ++ suf → Ev (fun k => spec_OutputsOf.l0 k o ((pre.map (runL o)).foldl putL []) ((wsL o.length).map strOfNums) (pre.length : Int)) (tidyG (outL o), true) := by
  intro suf
  have hl := wsL_len ho
  induction suf with
  | nil =>
    intro pre e
    have h : (((wsL o.length).map strOfNums).length : Int) = pre.length := by rw [List.length_map]; exact len_end e
    have hpl : pre.length ≤ 16384 := by have := congrArg List.length e; simp at this; omega
    have hb := putAll_bound (pre.map (runL o)) []
    rw [List.length_map] at hb
    simp only [List.length_nil] at hb
    refine ev_succ ?_
    simp only [spec_OutputsOf.l0.eq_2]
    refine ev_neg (by omega) (ev_let (ev_pos (by simp; omega) (ev_now ?_)))
    rw [List.nil_append, putAll_tidy]
    unfold outL; rw [e]; simp
  | cons w suf ih =>
    intro pre e
    have h : (((wsL o.length).map strOfNums).length : Int) = pre.length + 1 + suf.length := by rw [List.length_map]; exact len_mid e
    have hpl : pre.length ≤ 16384 := by have := congrArg List.length e; simp at this; omega
    obtain ⟨hw1, hw2, hw3⟩ := wsL_mem (n := o.length) (w := w) (by rw [e]; simp)
    have hrd : rdOf ByteArray.empty ((wsL o.length).map strOfNums) (pre.length : Int) = strOfNums w := by rw [e]; simp [rdOf]
    have hsz : (strOfNums w).size = 2 * o.length := by rw [← bytes_len, bytes_strOf hw3]; exact hw1
    have hrun := spec_run_ev o (strOfNums w) ho (by rw [bytes_strOf hw3]; exact hw2) hsz
    rw [bytes_strOf hw3] at hrun
    have hb := putAll_bound (pre.map (runL o)) []
    rw [List.length_map] at hb
    simp only [List.length_nil] at hb
    have hmem : ∀ y ∈ (pre.map (runL o)).foldl putL [], y.length = o.length := by
      intro y hy
      rcases ((putAll_gen (pre.map (runL o)) [] (by simp [Strict])).2 y).1 hy with hy | hy
      · cases hy
      · obtain ⟨v, hv, rfl⟩ := List.mem_map.1 hy
        exact run_len (by rw [e]; simp [hv])
    refine ev_succ ?_
    simp only [spec_OutputsOf.l0.eq_2, hrd]
    rw [wrap_snoc (pre := pre) (c := w) (by omega)]
    refine ev_pos (by omega) (ev_pos (by omega) (ev_bind hrun (ev_bind (put_ev o.length (by omega) _ (runL o w) (by omega) (run_len (by rw [e]; simp)) hmem) ?_)))
    have := ih (pre ++ [w]) (snoc_mid e)
    rw [List.map_append, List.foldl_append] at this
    exact this
theorem op_spec_ev (o : List Int) (hl : o.length ≤ 140737488351232) : Ev (fun k => spec_OutputsOf.f k o) (opR o) := by
  unfold spec_OutputsOf.f opR
  refine ev_let (ev_bind (spec_order_ev o hl) ?_)
  by_cases h1 : isOrd o = true
  · rw [onOrd_pos h1]
    have hl := ord_len h1
    have hw := spec_words_r (o.length + o.length) o.length o.length o.length [] rfl (Nat.le_refl _) (by simp; omega) (by omega)
    rw [str_nil, show o.length - o.length = 0 by omega] at hw
    refine ev_pos h1 (ev_bind (a := (wsL o.length).map strOfNums) (by simpa [wsL] using hw) ?_)
    exact spec_outputs_l o hl.2 (wsL o.length) [] rfl
  · rw [onOrd_neg h1]
    exact ev_neg h1 (ev_now rfl)
theorem opR_ok (o : List Int) : (opR o).1.length ≤ 1048576 ∧ (opR o).1.all (fun xs => decide (xs.length ≤ 1048576)) = true := by
  by_cases h1 : isOrd o = true
  · have hq : opR o = (tidyG (outL o), true) := by unfold opR; rw [onOrd_pos h1]
    have h7 := (ord_len h1).2
    have hb := tidy_bound (outL o)
    have hl := wsL_len h7
    have ho : (outL o).length = (wsL o.length).length := by unfold outL; simp
    rw [hq]
    refine ⟨by simp only; omega, List.all_eq_true.2 (fun xs hx => ?_)⟩
    have := outL_len xs ((tidyG_mem _ _).1 hx)
    exact decide_eq_true (by omega)
  · have hq : opR o = ([], false) := by unfold opR; rw [onOrd_neg h1]
    rw [hq]; simp

theorem FnExactOutputsOf : laws_FnExactOutputsOf.Pure := by
  intro a hm ha hw
  apply Ev.rounds (r := true)
  unfold laws_FnExactOutputsOf.f
  by_cases h1 : (a.length : Int) > 1048576
  · exact ev_pos h1 (ev_now rfl)
  exact ev_neg h1 (ev_bind (op_spec_ev a (len_max ha)) (ev_bind (op_impl_ev a (len_max ha)) (ev_pos ⟨rfl, opR_ok a⟩ (ev_now rfl))))
end Go.Proofs.Ytlkddcabjcejdaa.Pure
