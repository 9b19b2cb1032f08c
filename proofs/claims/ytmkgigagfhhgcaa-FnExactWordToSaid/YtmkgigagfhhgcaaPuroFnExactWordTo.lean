/- The pure statement of FnExactWordTo: program and reference tell the same word. No condition. -/
import Derived.Test.YtmkgigagfhhgcaaMFnExactWordTox5
import Derived.Test.YtmkgigagfhhgcaaBase
import Derived.Test.YtmkgigagfhhgcaaBaseW
import Derived.Test.YtmkgigagfhhgcaaBaseR
import Derived.Test.YtmkgigagfhhgcaaBaseT
namespace Go.Proofs.Ytmkgigagfhhgcaa.Pure
open Go Go.RowKit Go.Proofs.Ytmkgigagfhhgcaa.MFnExactWordTo Go.Proofs.YtmkgigagfhhgcaaW.PrintWords Go.Proofs.Ytmkgigagfhhgcaa.Base
set_option linter.unusedVariables false
set_option linter.unusedSimpArgs false
/-! ### laws.toIntS, laws.eqIntS -/
theorem toInt_l (l : List Int) (hl : l.length * 8 ≤ 140737488351232) : ∀ (suf pre : List Int), l = pre ++ suf → Ev (fun k => laws_toIntS.l0 k l (pre ++ List.replicate suf.length 0) (pre.length : Int)) l := by
  intro suf
  induction suf with
  | nil =>
    intro pre e
    have h := len_end e
    refine ev_succ ?_
    simp only [laws_toIntS.l0.eq_2]
    refine ev_neg (by omega) ?_
    exact ev_now (by rw [e]; simp)
  | cons c suf ih =>
    intro pre e
    have h := len_mid e
    refine ev_succ ?_
    simp only [laws_toIntS.l0.eq_2, rd_mid' e]
    refine ev_pos (by omega) (ev_pos (by omega) (ev_pos (by simp; omega) ?_))
    rw [wrap_snoc (pre := pre) (c := c) (by omega)]
    have e2 : (pre ++ List.replicate (c :: suf).length 0).set ((pre.length : Int)).toNat c = (pre ++ [c]) ++ List.replicate suf.length 0 := by
      simp [List.replicate_succ]
    rw [e2]
    exact ih _ (snoc_mid e)
theorem toInt_ev (l : List Int) (hl : l.length * 8 ≤ 140737488351232) : Ev (fun k => laws_toIntS.f k l) l := by
  unfold laws_toIntS.f
  refine ev_pos (by omega) (ev_pos (by omega) ?_)
  have := toInt_l l hl l [] rfl
  simpa using this

theorem eqInt_l (a b : List Int) (hl : a.length * 8 ≤ 140737488351232) : ∀ (s t pre q : List Int), a = pre ++ s → b = q ++ t → pre.length = q.length → s.length = t.length → Ev (fun k => laws_eqIntS.l0 k a b (pre.length : Int)) (decide (s = t)) := by
  intro s
  induction s with
  | nil =>
    intro t pre q e e' h1 h2
    have h := len_end e
    obtain rfl : t = [] := by cases t with
      | nil => rfl
      | cons _ _ => simp at h2
    refine ev_succ ?_
    simp only [laws_eqIntS.l0.eq_2]
    refine ev_neg (by omega) ?_
    exact ev_now (by simp)
  | cons c s ih =>
    intro t pre q e e' h1 h2
    cases t with
    | nil => simp at h2
    | cons d t =>
    have h := len_mid e
    have h' := len_mid e'
    refine ev_succ ?_
    have r1 := rd_mid' e
    have r2 := rd_mid' e'
    rw [← h1] at r2
    simp only [laws_eqIntS.l0.eq_2, r1, r2]
    refine ev_pos (by omega) (ev_pos (by omega) (ev_pos (by omega) ?_))
    by_cases hc : c = d
    · refine ev_pos hc ?_
      rw [wrap_snoc (pre := pre) (c := c) (by omega)]
      refine ev_eq (ih t (pre ++ [c]) (q ++ [d]) (snoc_mid e) (snoc_mid e') (by simp [h1]) (by simpa using h2)) ?_
      simp [hc]
    · refine ev_neg hc (ev_now ?_)
      simp [hc]
theorem eqInt_ev (a b : List Int) (hl : a.length * 8 ≤ 140737488351232) : Ev (fun k => laws_eqIntS.f k a b) (decide (a = b)) := by
  unfold laws_eqIntS.f
  by_cases h : a.length = b.length
  · refine ev_pos (by omega) ?_
    exact eqInt_l a b hl a b [] [] rfl rfl rfl h
  · refine ev_neg (by omega) (ev_now ?_)
    symm
    exact decide_eq_false (fun e => h (by rw [e]))

/-! ### Is it an order? -/
theorem in_ev (a b c : Int) : Ev (fun _ => spec_l1In.f a b c) (decide (b ≤ a) && decide (a ≤ c)) := by
  unfold spec_l1In.f
  by_cases h : a ≥ b
  · refine ev_pos h (ev_now ?_)
    have : decide (b ≤ a) = true := decide_eq_true h
    rw [this]; rfl
  · refine ev_neg h (ev_now ?_)
    have : decide (b ≤ a) = false := decide_eq_false (by omega)
    rw [this]; rfl

theorem has_l (l : List Int) (x : Int) (hl : l.length ≤ 140737488351232) : ∀ (suf pre : List Int), l = pre ++ suf → Ev (fun k => spec_l1Has.l0 k l x (pre.length : Int)) (decide (x ∈ suf)) := by
  intro suf
  induction suf with
  | nil =>
    intro pre e
    have h := len_end e
    refine ev_succ ?_
    simp only [spec_l1Has.l0.eq_2]
    refine ev_neg (by omega) ?_
    exact ev_now (by simp)
  | cons c suf ih =>
    intro pre e
    have h := len_mid e
    refine ev_succ ?_
    simp only [spec_l1Has.l0.eq_2, rd_mid' e]
    refine ev_pos (by omega) (ev_pos (by omega) ?_)
    by_cases hc : c = x
    · exact ev_pos hc (ev_now (by simp [hc]))
    · refine ev_neg hc ?_
      rw [wrap_snoc (pre := pre) (c := c) (by omega)]
      refine ev_eq (ih _ (snoc_mid e)) ?_
      have : x ≠ c := fun h => hc h.symm
      simp [this]
theorem has_ev (l : List Int) (x : Int) (hl : l.length ≤ 140737488351232) : Ev (fun k => spec_l1Has.f k l x) (decide (x ∈ l)) := by
  unfold spec_l1Has.f
  exact has_l l x hl l [] rfl
theorem idx_l (l : List Int) (x : Int) (hl : l.length ≤ 140737488351232) : ∀ (suf pre : List Int), l = pre ++ suf → Ev (fun k => slices_Index_int_int.l0 k l x (l.length : Int) (pre.length : Int)) (if x ∈ suf then ((pre.length + suf.idxOf x : Nat) : Int) else -1) := by
  intro suf
  induction suf with
  | nil =>
    intro pre e
    have h := len_end e
    refine ev_succ ?_
    simp only [slices_Index_int_int.l0.eq_2]
    refine ev_neg (by omega) ?_
    exact ev_now (by simp)
  | cons c suf ih =>
    intro pre e
    have h := len_mid e
    refine ev_succ ?_
    simp only [slices_Index_int_int.l0.eq_2, rd_mid' e]
    refine ev_pos (by omega) (ev_pos (by omega) (ev_pos (by omega) ?_))
    by_cases hc : x = c
    · exact ev_pos hc (ev_now (by simp [hc]))
    · refine ev_neg hc ?_
      rw [wrap_snoc (pre := pre) (c := c) (by omega)]
      refine ev_eq (ih _ (snoc_mid e)) ?_
      have hc' : ¬ c = x := fun h => hc h.symm
      have hb : (c == x) = false := by simpa using hc'
      simp only [List.mem_cons, hc, false_or, List.idxOf_cons, hb, cond_false]
      by_cases hm : x ∈ suf
      · rw [if_pos hm, if_pos hm]; simp; omega
      · rw [if_neg hm, if_neg hm]
theorem idx_ev (l : List Int) (x : Int) (hl : l.length ≤ 140737488351232) : Ev (fun k => slices_Index_int_int.f k l x) (if x ∈ l then ((l.idxOf x : Nat) : Int) else -1) := by
  unfold slices_Index_int_int.f
  simpa using idx_l l x hl l [] rfl
theorem contains_ev (l : List Int) (x : Int) (hl : l.length ≤ 140737488351232) : Ev (fun k => slices_Contains_int_int.f k l x) (decide (x ∈ l)) := by
  unfold slices_Contains_int_int.f
  refine ev_bind (idx_ev l x hl) (ev_now ?_)
  by_cases h : x ∈ l
  · simp [h]
  · simp [h]

theorem spec_order_l (l : List Int) (hl : l.length ≤ 140737488351232) : ∀ (suf pre : List Int), l = pre ++ suf → Ev (fun k => spec_l2Order.l0 k l (pre.length : Int)) (ordGo (l.length : Int) pre suf) := by
  intro suf
  induction suf with
  | nil =>
    intro pre e
    have h := len_end e
    refine ev_succ ?_
    simp only [spec_l2Order.l0.eq_2]
    refine ev_neg (by omega) ?_
    exact ev_now rfl
  | cons c suf ih =>
    intro pre e
    have h := len_mid e
    refine ev_succ ?_
    simp only [spec_l2Order.l0.eq_2, rd_mid' e, take_mid e]
    refine ev_pos (by omega) (ev_pos (by omega) (ev_bind (in_ev _ _ _) ?_))
    by_cases hr : 1 ≤ c ∧ c ≤ (l.length : Int)
    · refine ev_pos (by simp [hr.1, hr.2]) (ev_pos (by omega) (ev_bind (has_ev pre c (by omega)) ?_))
      by_cases hc : c ∈ pre
      · exact ev_pos (by simp [hc]) (ev_now (by simp [ordGo, hc]))
      · refine ev_neg (by simp [hc]) ?_
        rw [wrap_snoc (pre := pre) (c := c) (by omega)]
        refine ev_eq (ih _ (snoc_mid e)) ?_
        simp [ordGo, hr.1, hr.2, hc]
    · refine ev_neg (by simp; omega) (ev_now ?_)
      simp only [ordGo]
      rw [if_neg (fun h => hr ⟨h.1, h.2.1⟩)]
theorem spec_order_ev (l : List Int) (hl : l.length ≤ 140737488351232) : Ev (fun k => spec_l2Order.f k l) (isOrd l) := by
  unfold spec_l2Order.f
  refine ev_bind (in_ev _ _ _) ?_
  unfold isOrd
  by_cases h : 1 ≤ l.length ∧ l.length ≤ 7
  · refine ev_pos (by simp; omega) ?_
    rw [if_pos h]
    exact spec_order_l l hl l [] rfl
  · refine ev_neg (by simp; omega) (ev_now ?_)
    rw [if_neg h]
theorem impl_order_l (l : List Int) (hl : l.length ≤ 140737488351232) : ∀ (suf pre : List Int), l = pre ++ suf → Ev (fun k => impl_isOrder.l0 k l l (l.length : Int) (pre.length : Int)) (ordGo (l.length : Int) pre suf) := by
  intro suf
  induction suf with
  | nil =>
    intro pre e
    have h := len_end e
    refine ev_succ ?_
    simp only [impl_isOrder.l0.eq_2]
    refine ev_neg (by omega) ?_
    exact ev_now rfl
  | cons c suf ih =>
    intro pre e
    have h := len_mid e
    refine ev_succ ?_
    simp only [impl_isOrder.l0.eq_2, rd_mid' e, take_mid e]
    refine ev_pos (by omega) (ev_pos (by omega) (ev_pos (by omega) ?_))
    by_cases h1 : c < 1
    · exact ev_pos h1 (ev_now (by simp only [ordGo]; rw [if_neg (fun h => by omega)]))
    refine ev_neg h1 ?_
    by_cases h2 : c > (l.length : Int)
    · exact ev_pos h2 (ev_now (by simp only [ordGo]; rw [if_neg (fun h => by omega)]))
    refine ev_neg h2 (ev_pos (by omega) (ev_bind (contains_ev pre c (by omega)) ?_))
    by_cases hc : c ∈ pre
    · exact ev_pos (by simp [hc]) (ev_now (by simp [ordGo, hc]))
    · refine ev_neg (by simp [hc]) ?_
      rw [wrap_snoc (pre := pre) (c := c) (by omega)]
      refine ev_eq (ih _ (snoc_mid e)) ?_
      simp only [ordGo]
      rw [if_pos ⟨by omega, by omega, hc⟩]
theorem impl_order_ev (l : List Int) (hl : l.length ≤ 140737488351232) : Ev (fun k => impl_isOrder.f k l) (isOrd l) := by
  have key : ∀ b : Bool, Ev (fun k => impl_isOrder.j0 k l b) (if b = true then false else ordGo (l.length : Int) [] l) := by
    intro b
    refine ev_succ ?_
    simp only [impl_isOrder.j0.eq_2]
    cases b with
    | true => exact ev_pos rfl (ev_now rfl)
    | false => exact ev_neg (by simp) (impl_order_l l hl l [] rfl)
  unfold impl_isOrder.f isOrd
  by_cases h1 : (l.length : Int) < 1
  · refine ev_pos h1 (ev_eq (key true) ?_)
    rw [if_pos rfl, if_neg (fun h => by omega)]
  · refine ev_neg h1 (ev_eq (key _) ?_)
    by_cases h2 : (l.length : Int) > 7
    · rw [if_neg (c := 1 ≤ l.length ∧ l.length ≤ 7) (fun h => by omega), if_pos (decide_eq_true h2)]
    · rw [if_pos (c := 1 ≤ l.length ∧ l.length ≤ 7) ⟨by omega, by omega⟩, if_neg (by simp; omega)]

theorem areOrders_ev (a b : List Int) (ha : a.length ≤ 140737488351232) (hb : b.length ≤ 140737488351232) : Ev (fun k => impl_areOrders.f k a b) (isOrd a && isOrd b && (a.length == b.length)) := by
  unfold impl_areOrders.f
  refine ev_bind (impl_order_ev a ha) ?_
  by_cases h1 : isOrd a = true
  · refine ev_pos h1 (ev_bind (impl_order_ev b hb) ?_)
    by_cases h2 : isOrd b = true
    · refine ev_pos h2 (ev_now ?_)
      rw [h1, h2]
      by_cases h : a.length = b.length
      · simp [h]
      · have h' : ((a.length : Int) == (b.length : Int)) = false := by simpa using fun e : (a.length : Int) = (b.length : Int) => h (by omega)
        have h'' : (a.length == b.length) = false := by simpa using h
        rw [h', h'']; rfl
    · refine ev_neg h2 (ev_now (by simp [h2]))
  · exact ev_neg h1 (ev_now (by simp [h1]))

/-! ### the word by which numbers come out of others -/
theorem toGo_nil (m : Nat) (o s out : List Int) : toGo m [] o s out = (out, true) := by cases m <;> rfl
theorem toGo_pop (m : Nat) (n : Int) (t o s out : List Int) : toGo (m + 1) (n :: t) o (n :: s) out = toGo m t o s (out ++ [79]) := by
  simp [toGo]
theorem toGo_push0 (m : Nat) (n c : Int) (t o out : List Int) : toGo (m + 1) (n :: t) (c :: o) [] out = toGo m (n :: t) o [c] (out ++ [73]) := by
  simp [toGo]
theorem toGo_push (m : Nat) (n c x : Int) (t o s out : List Int) (h : x ≠ n) : toGo (m + 1) (n :: t) (c :: o) (x :: s) out = toGo m (n :: t) o (c :: x :: s) (out ++ [73]) := by
  simp [toGo, h]
theorem toGo_stop (m : Nat) (n x : Int) (t s out : List Int) (h : x ≠ n) : toGo (m + 1) (n :: t) [] (x :: s) out = ([], false) := by
  simp [toGo, h]
theorem spec_to_l (a b : List Int) (ha : a.length ≤ 7) (hb : b.length ≤ 7) : ∀ (m : Nat) (t o s out opre tpre : List Int), a = opre ++ o → b = tpre ++ t → o.length + t.length ≤ m → s.length + o.length = t.length → out.length + m ≤ 1000 →
    Ev (fun k => spec_l2To.l0 k a b (strOfNums out) s.reverse (opre.length : Int) (tpre.length : Int)) (strOfNums (toGo m t o s out).1, (toGo m t o s out).2) ∧
    (t ≠ [] → Ev (fun k => spec_l2To.l1 k a b (strOfNums out) s.reverse (opre.length : Int) (tpre.length : Int)) (strOfNums (toGo m t o s out).1, (toGo m t o s out).2)) := by
  intro m
  induction m with
  | zero =>
    intro t o s out opre tpre e1 e2 hm hs ho
    have ht : t = [] := List.length_eq_zero_iff.1 (by omega)
    subst ht
    have h2 := len_end e2
    refine ⟨?_, fun h => absurd rfl h⟩
    refine ev_succ ?_
    simp only [spec_l2To.l0.eq_2]
    exact ev_neg (by omega) (ev_now (by rw [toGo_nil]))
  | succ m ih =>
    intro t o s out opre tpre e1 e2 hm hs ho
    have key : t ≠ [] → Ev (fun k => spec_l2To.l1 k a b (strOfNums out) s.reverse (opre.length : Int) (tpre.length : Int)) (strOfNums (toGo (m + 1) t o s out).1, (toGo (m + 1) t o s out).2) := by
      intro hne
      obtain ⟨n, t, rfl⟩ : ∃ n t', t = n :: t' := by cases t with
        | nil => exact absurd rfl hne
        | cons n t' => exact ⟨n, t', rfl⟩
      have h2 := len_mid e2
      simp only [List.length_cons] at hm hs
      have hsz : (strOfNums out).size = out.length := str_size out
      refine ev_succ ?_
      simp only [spec_l2To.l1.eq_2, rd_mid' e2]
      cases o with
      | cons c o =>
        have h1 := len_mid e1
        simp only [List.length_cons] at hm hs
        rw [rd_mid' e1, wrap_snoc (pre := opre) (c := c) (by omega), wrap_snoc (pre := tpre) (c := n) (by omega), str_snocI, str_snocO]
        refine ev_pos (by omega) ?_
        cases s with
        | nil =>
          refine ev_pos (by simp) (ev_pos (by omega) (ev_pos (by simp) (ev_pos (by omega) ?_)))
          rw [toGo_push0]
          exact (ih (n :: t) o [c] (out ++ [73]) (opre ++ [c]) tpre (snoc_mid e1) e2 (by simp; omega) (by simp at hs ⊢; omega) (by simp; omega)).2 (by simp)
        | cons x s =>
          simp only [List.length_cons] at hs
          have hl : ((x :: s).reverse.length : Int) = (s.length : Int) + 1 := by simp
          rw [wrap_of (x := ((x :: s).reverse.length : Int) - 1) (by omega) (by omega), top_rev, pop_rev]
          refine ev_neg (by omega) (ev_pos (by omega) (ev_pos (by omega) (ev_pos (by omega) (ev_pos (by omega) ?_))))
          by_cases hx : x = n
          · subst hx
            refine ev_pos rfl (ev_pos (by omega) (ev_pos (by omega) ?_))
            rw [toGo_pop]
            exact (ih t (c :: o) s (out ++ [79]) opre (tpre ++ [x]) e1 (snoc_mid e2) (by simp; omega) (by simp; omega) (by simp; omega)).1
          · refine ev_neg hx (ev_pos (by omega) (ev_pos (by simp; omega) (ev_pos (by omega) ?_)))
            rw [toGo_push _ _ _ _ _ _ _ _ hx]
            have := (ih (n :: t) o (c :: x :: s) (out ++ [73]) (opre ++ [c]) tpre (snoc_mid e1) e2 (by simp; omega) (by simp; omega) (by simp; omega)).2 (by simp)
            simpa using this
      | nil =>
        have h1 := len_end e1
        cases s with
        | nil => simp at hs
        | cons x s =>
          simp only [List.length_cons, List.length_nil] at hs
          have hl : ((x :: s).reverse.length : Int) = (s.length : Int) + 1 := by simp
          rw [wrap_of (x := ((x :: s).reverse.length : Int) - 1) (by omega) (by omega), top_rev, pop_rev, wrap_snoc (pre := tpre) (c := n) (by omega), str_snocO]
          refine ev_neg (by omega) (ev_pos (by omega) (ev_pos (by omega) (ev_pos (by omega) (ev_pos (by omega) ?_))))
          by_cases hx : x = n
          · subst hx
            refine ev_pos rfl (ev_pos (by omega) (ev_pos (by omega) ?_))
            rw [toGo_pop]
            exact (ih t [] s (out ++ [79]) opre (tpre ++ [x]) e1 (snoc_mid e2) (by simp; omega) (by simp; omega) (by simp; omega)).1
          · rw [toGo_stop _ _ _ _ _ _ hx]
            exact ev_neg hx (ev_now (by simp [str_nil]))
    refine ⟨?_, key⟩
    cases t with
    | nil =>
      have h2 := len_end e2
      refine ev_succ ?_
      simp only [spec_l2To.l0.eq_2]
      exact ev_neg (by omega) (ev_now (by rw [toGo_nil]))
    | cons n t =>
      have h2 := len_mid e2
      refine ev_succ ?_
      simp only [spec_l2To.l0.eq_2]
      exact ev_pos (by omega) (key (by simp))
theorem impl_to_l (b : List Int) (hb : b.length ≤ 7) : ∀ (m : Nat) (t o s out tpre : List Int), b = tpre ++ t → o.length + t.length ≤ m → s.length + o.length = t.length → out.length + m ≤ 1000 →
    Ev (fun k => impl_wordTo.l0 k o s.reverse out b (b.length : Int) (tpre.length : Int)) (strOfNums (toGo m t o s out).1, (toGo m t o s out).2) ∧
    (∀ n t', t = n :: t' → Ev (fun k => impl_wordTo.l1 k o s.reverse out n b (b.length : Int) (tpre.length : Int)) (strOfNums (toGo m t o s out).1, (toGo m t o s out).2)) := by
  intro m
  induction m with
  | zero =>
    intro t o s out tpre e2 hm hs ho
    have ht : t = [] := List.length_eq_zero_iff.1 (by omega)
    subst ht
    have h2 := len_end e2
    refine ⟨?_, fun n t' h => by cases h⟩
    refine ev_succ ?_
    simp only [impl_wordTo.l0.eq_2]
    exact ev_neg (by omega) (ev_now (by rw [toGo_nil]))
  | succ m ih =>
    intro t o s out tpre e2 hm hs ho
    have key : ∀ n t', t = n :: t' → Ev (fun k => impl_wordTo.l1 k o s.reverse out n b (b.length : Int) (tpre.length : Int)) (strOfNums (toGo (m + 1) t o s out).1, (toGo (m + 1) t o s out).2) := by
      intro n t' et
      subst et
      have h2 := len_mid e2
      simp only [List.length_cons] at hm hs
      have push : ∀ c o', o = c :: o' → s.head? ≠ some n → Ev (fun k => impl_wordTo.j2 k o s.reverse out n b (b.length : Int) (tpre.length : Int) true) (strOfNums (toGo (m + 1) (n :: t') o s out).1, (toGo (m + 1) (n :: t') o s out).2) := by
        intro c o' eo hh
        subst eo
        simp only [List.length_cons] at hm hs
        refine ev_succ ?_
        simp only [impl_wordTo.j2.eq_2]
        refine ev_pos trivial (ev_neg (by simp; omega) (ev_pos (by simp) (ev_let (ev_pos (by simp; omega) (ev_pos (by simp; omega) (ev_let (ev_pos (by simp; omega) ?_)))))))
        have hr : rd (c :: o') 0 = c := by simp [rd]
        have e3 : toGo (m + 1) (n :: t') (c :: o') s out = toGo m (n :: t') o' (c :: s) (out ++ [73]) := by
          simp [toGo, hh]
        rw [hr, e3]
        have := (ih (n :: t') o' (c :: s) (out ++ [73]) tpre e2 (by simp; omega) (by simp; omega) (by simp; omega)).2 n t' rfl
        simpa using this
      refine ev_succ ?_
      simp only [impl_wordTo.l1.eq_2]
      cases s with
      | nil =>
        refine ev_pos (by simp) ?_
        cases o with
        | nil => simp at hs
        | cons c o => exact push c o rfl (by simp)
      | cons x s =>
        simp only [List.length_cons] at hs
        have hl : ((x :: s).reverse.length : Int) = (s.length : Int) + 1 := by simp
        rw [wrap_of (x := ((x :: s).reverse.length : Int) - 1) (by omega) (by omega), top_rev]
        refine ev_neg (by omega) (ev_pos (by omega) (ev_pos (by omega) ?_))
        by_cases hx : x = n
        · subst hx
          have hb' : (x != x) = false := by simp
          rw [hb']
          refine ev_succ ?_
          simp only [impl_wordTo.j2.eq_2]
          rw [wrap_of (x := ((x :: s).reverse.length : Int) - 1) (by omega) (by omega), pop_rev, wrap_snoc (pre := tpre) (c := x) (by omega)]
          refine ev_neg (by simp) (ev_pos (by omega) (ev_pos (by omega) (ev_let (ev_pos (by simp; omega) ?_))))
          rw [toGo_pop]
          exact (ih t' o s (out ++ [79]) (tpre ++ [x]) (snoc_mid e2) (by omega) (by omega) (by simp; omega)).1
        · have hb' : (x != n) = true := by simpa using hx
          rw [hb']
          cases o with
          | nil =>
            refine ev_succ ?_
            simp only [impl_wordTo.j2.eq_2]
            rw [toGo_stop _ _ _ _ _ _ hx]
            exact ev_pos trivial (ev_pos (by simp) (ev_now (by simp [str_nil])))
          | cons c o => exact push c o rfl (by simpa using hx)
    refine ⟨?_, key⟩
    cases t with
    | nil =>
      have h2 := len_end e2
      refine ev_succ ?_
      simp only [impl_wordTo.l0.eq_2]
      exact ev_neg (by omega) (ev_now (by rw [toGo_nil]))
    | cons n t =>
      have h2 := len_mid e2
      refine ev_succ ?_
      simp only [impl_wordTo.l0.eq_2, rd_mid' e2]
      exact ev_pos (by omega) (ev_pos (by omega) (ev_pos (by omega) (key n t rfl)))
theorem spec_to_ev (a b : List Int) (ha : a.length ≤ 7) (h : a.length = b.length) : Ev (fun k => spec_l2To.f k a b) (toW a b) := by
  unfold spec_l2To.f toW toL
  have := (spec_to_l a b ha (by omega) (a.length + b.length) b a [] [] [] [] rfl rfl (by omega) (by simp; omega) (by simp; omega)).1
  simpa [str_nil] using this
theorem impl_to_ev (a b : List Int) (ha : a.length ≤ 7) (h : a.length = b.length) : Ev (fun k => impl_wordTo.f k a b) (toW a b) := by
  unfold impl_wordTo.f toW toL
  have := (impl_to_l b (by omega) (a.length + b.length) b a [] [] [] rfl (by omega) (by simp; omega) (by simp; omega)).1
  simpa using this

theorem spec_wt_ev (a b : List Int) (ha : a.length ≤ 140737488351232) (hb : b.length ≤ 140737488351232) : Ev (fun k => spec_WordTo.f k a b) (toR a b) := by
  unfold spec_WordTo.f toR
  refine ev_bind (spec_order_ev a ha) ?_
  by_cases h1 : isOrd a = true
  · refine ev_pos h1 (ev_bind (spec_order_ev b hb) ?_)
    by_cases h2 : isOrd b = true
    · refine ev_pos h2 ?_
      by_cases h3 : a.length = b.length
      · rw [if_pos ⟨h1, h2, h3⟩]
        exact ev_pos (by omega) (ev_bind (spec_to_ev a b (ord_len h1).2 h3) (ev_now rfl))
      · rw [if_neg (fun h => h3 h.2.2)]
        exact ev_neg (by omega) (ev_now rfl)
    · rw [if_neg (fun h => h2 h.2.1)]
      exact ev_neg h2 (ev_now rfl)
  · rw [if_neg (fun h => h1 h.1)]
    exact ev_neg h1 (ev_now rfl)
theorem impl_wt_ev (a b : List Int) (ha : a.length ≤ 140737488351232) (hb : b.length ≤ 140737488351232) : Ev (fun k => impl_WordTo.f k a b) (toR a b) := by
  unfold impl_WordTo.f toR
  refine ev_bind (areOrders_ev a b ha hb) ?_
  by_cases h : isOrd a = true ∧ isOrd b = true ∧ a.length = b.length
  · rw [if_pos h]
    exact ev_pos (by simp [h.1, h.2.1, h.2.2]) (ev_bind (impl_to_ev a b (ord_len h.1).2 h.2.2) (ev_now rfl))
  · rw [if_neg h]
    exact ev_neg (fun hh => h (by simpa [and_assoc] using hh)) (ev_now rfl)
theorem FnExactWordTo : laws_FnExactWordTo.Pure := by
  intro a b hma ha hwa hmb hb hwb
  apply Ev.rounds (r := true)
  have hs := spec_wt_ev a b (len_max ha) (len_max hb)
  have hi := impl_wt_ev a b (len_max ha) (len_max hb)
  unfold laws_FnExactWordTo.f
  by_cases h1 : (a.length : Int) > 1048576
  · exact ev_pos h1 (ev_now rfl)
  refine ev_neg h1 ?_
  by_cases h2 : (b.length : Int) > 1048576
  · exact ev_pos h2 (ev_now rfl)
  refine ev_neg h2 (ev_bind (toInt_ev a ha) (ev_bind (toInt_ev b hb) (ev_bind hs (ev_bind (toInt_ev a ha) (ev_bind (toInt_ev b hb) (ev_bind hi (ev_pos rfl ?_)))))))
  refine ev_succ ?_
  simp only [laws_FnExactWordTo.j0.eq_2]
  exact ev_neg (by simp) (ev_bind (toInt_ev a ha) (ev_bind (eqInt_ev a a ha) (ev_pos (by simp) (ev_bind (toInt_ev b hb) (ev_bind (eqInt_ev b b hb) (ev_pos (by simp) (ev_now rfl)))))))
end Go.Proofs.Ytmkgigagfhhgcaa.Pure
