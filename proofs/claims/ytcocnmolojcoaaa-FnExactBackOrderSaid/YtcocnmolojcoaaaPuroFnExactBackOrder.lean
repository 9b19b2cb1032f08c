/- The pure statement of FnExactBackOrder: program and reference tell the same list. No condition. -/
import Derived.Test.YtcocnmolojcoaaaMFnExactBackOrderx4
import Derived.Test.YtcocnmolojcoaaaBase
namespace Go.Proofs.Ytcocnmolojcoaaa.Pure
open Go Go.RowKit Go.Proofs.Ytcocnmolojcoaaa.MFnExactBackOrder Go.Proofs.YtcocnmolojcoaaaW.PrintWords Go.Proofs.Ytcocnmolojcoaaa.Base
set_option linter.unusedVariables false
set_option linter.unusedSimpArgs false
/-! ### laws.toIntS, laws.eqIntS -/
theorem toInt_l (l : List Int) (hl : l.length * 8 ≤ 140737488351232) : ∀ (suf pre : List Int), l = pre ++ suf → Ev (fun k => laws_toIntS.l0 k l (pre ++ List.replicate suf.length 0) (pre.length : Int)) l := by
  intro suf
  induction suf with
  | nil =>
    intro pre e
    have h := len_end e
    refine ev_succ ?_
    simp only [laws_toIntS.l0.eq_2]
    refine ev_neg (by omega) ?_
    exact ev_now (by rw [e]; simp)
  | cons c suf ih =>
    intro pre e
    have h := len_mid e
    refine ev_succ ?_
    simp only [laws_toIntS.l0.eq_2, rd_mid' e]
    refine ev_pos (by omega) (ev_pos (by omega) (ev_pos (by simp; omega) ?_))
    rw [wrap_snoc (pre := pre) (c := c) (by omega)]
    have e2 : (pre ++ List.replicate (c :: suf).length 0).set ((pre.length : Int)).toNat c = (pre ++ [c]) ++ List.replicate suf.length 0 := by
      simp [List.replicate_succ]
    rw [e2]
    exact ih _ (snoc_mid e)
theorem toInt_ev (l : List Int) (hl : l.length * 8 ≤ 140737488351232) : Ev (fun k => laws_toIntS.f k l) l := by
  unfold laws_toIntS.f
  refine ev_pos (by omega) (ev_pos (by omega) ?_)
  have := toInt_l l hl l [] rfl
  simpa using this

theorem eqInt_l (a b : List Int) (hl : a.length * 8 ≤ 140737488351232) : ∀ (s t pre q : List Int), a = pre ++ s → b = q ++ t → pre.length = q.length → s.length = t.length → Ev (fun k => laws_eqIntS.l0 k a b (pre.length : Int)) (decide (s = t)) := by
  intro s
  induction s with
  | nil =>
    intro t pre q e e' h1 h2
    have h := len_end e
    obtain rfl : t = [] := by cases t with
      | nil => rfl
      | cons _ _ => simp at h2
    refine ev_succ ?_
    simp only [laws_eqIntS.l0.eq_2]
    refine ev_neg (by omega) ?_
    exact ev_now (by simp)
  | cons c s ih =>
    intro t pre q e e' h1 h2
    cases t with
    | nil => simp at h2
    | cons d t =>
    have h := len_mid e
    have h' := len_mid e'
    refine ev_succ ?_
    have r1 := rd_mid' e
    have r2 := rd_mid' e'
    rw [← h1] at r2
    simp only [laws_eqIntS.l0.eq_2, r1, r2]
    refine ev_pos (by omega) (ev_pos (by omega) (ev_pos (by omega) ?_))
    by_cases hc : c = d
    · refine ev_pos hc ?_
      rw [wrap_snoc (pre := pre) (c := c) (by omega)]
      refine ev_eq (ih t (pre ++ [c]) (q ++ [d]) (snoc_mid e) (snoc_mid e') (by simp [h1]) (by simpa using h2)) ?_
      simp [hc]
    · refine ev_neg hc (ev_now ?_)
      simp [hc]
theorem eqInt_ev (a b : List Int) (hl : a.length * 8 ≤ 140737488351232) : Ev (fun k => laws_eqIntS.f k a b) (decide (a = b)) := by
  unfold laws_eqIntS.f
  by_cases h : a.length = b.length
  · refine ev_pos (by omega) ?_
    exact eqInt_l a b hl a b [] [] rfl rfl rfl h
  · refine ev_neg (by omega) (ev_now ?_)
    symm
    exact decide_eq_false (fun e => h (by rw [e]))

/-! ### Is it an order? -/
theorem in_ev (a b c : Int) : Ev (fun _ => spec_l1In.f a b c) (decide (b ≤ a) && decide (a ≤ c)) := by
  unfold spec_l1In.f
  by_cases h : a ≥ b
  · refine ev_pos h (ev_now ?_)
    have : decide (b ≤ a) = true := decide_eq_true h
    rw [this]; rfl
  · refine ev_neg h (ev_now ?_)
    have : decide (b ≤ a) = false := decide_eq_false (by omega)
    rw [this]; rfl

theorem has_l (l : List Int) (x : Int) (hl : l.length ≤ 140737488351232) : ∀ (suf pre : List Int), l = pre ++ suf → Ev (fun k => spec_l1Has.l0 k l x (pre.length : Int)) (decide (x ∈ suf)) := by
  intro suf
  induction suf with
  | nil =>
    intro pre e
    have h := len_end e
    refine ev_succ ?_
    simp only [spec_l1Has.l0.eq_2]
    refine ev_neg (by omega) ?_
    exact ev_now (by simp)
  | cons c suf ih =>
    intro pre e
    have h := len_mid e
    refine ev_succ ?_
    simp only [spec_l1Has.l0.eq_2, rd_mid' e]
    refine ev_pos (by omega) (ev_pos (by omega) ?_)
    by_cases hc : c = x
    · exact ev_pos hc (ev_now (by simp [hc]))
    · refine ev_neg hc ?_
      rw [wrap_snoc (pre := pre) (c := c) (by omega)]
      refine ev_eq (ih _ (snoc_mid e)) ?_
      have : x ≠ c := fun h => hc h.symm
      simp [this]
theorem has_ev (l : List Int) (x : Int) (hl : l.length ≤ 140737488351232) : Ev (fun k => spec_l1Has.f k l x) (decide (x ∈ l)) := by
  unfold spec_l1Has.f
  exact has_l l x hl l [] rfl
theorem idx_l (l : List Int) (x : Int) (hl : l.length ≤ 140737488351232) : ∀ (suf pre : List Int), l = pre ++ suf → Ev (fun k => slices_Index_int_int.l0 k l x (l.length : Int) (pre.length : Int)) (if x ∈ suf then ((pre.length + suf.idxOf x : Nat) : Int) else -1) := by
  intro suf
  induction suf with
  | nil =>
    intro pre e
    have h := len_end e
    refine ev_succ ?_
    simp only [slices_Index_int_int.l0.eq_2]
    refine ev_neg (by omega) ?_
    exact ev_now (by simp)
  | cons c suf ih =>
    intro pre e
    have h := len_mid e
    refine ev_succ ?_
    simp only [slices_Index_int_int.l0.eq_2, rd_mid' e]
    refine ev_pos (by omega) (ev_pos (by omega) (ev_pos (by omega) ?_))
    by_cases hc : x = c
    · exact ev_pos hc (ev_now (by simp [hc]))
    · refine ev_neg hc ?_
      rw [wrap_snoc (pre := pre) (c := c) (by omega)]
      refine ev_eq (ih _ (snoc_mid e)) ?_
      have hc' : ¬ c = x := fun h => hc h.symm
      have hb : (c == x) = false := by simpa using hc'
      simp only [List.mem_cons, hc, false_or, List.idxOf_cons, hb, cond_false]
      by_cases hm : x ∈ suf
      · rw [if_pos hm, if_pos hm]; simp; omega
      · rw [if_neg hm, if_neg hm]
theorem idx_ev (l : List Int) (x : Int) (hl : l.length ≤ 140737488351232) : Ev (fun k => slices_Index_int_int.f k l x) (if x ∈ l then ((l.idxOf x : Nat) : Int) else -1) := by
  unfold slices_Index_int_int.f
  simpa using idx_l l x hl l [] rfl
theorem contains_ev (l : List Int) (x : Int) (hl : l.length ≤ 140737488351232) : Ev (fun k => slices_Contains_int_int.f k l x) (decide (x ∈ l)) := by
  unfold slices_Contains_int_int.f
  refine ev_bind (idx_ev l x hl) (ev_now ?_)
  by_cases h : x ∈ l
  · simp [h]
  · simp [h]

theorem spec_order_l (l : List Int) (hl : l.length ≤ 140737488351232) : ∀ (suf pre : List Int), l = pre ++ suf → Ev (fun k => spec_l2Order.l0 k l (pre.length : Int)) (ordGo (l.length : Int) pre suf) := by
  intro suf
  induction suf with
  | nil =>
    intro pre e
    have h := len_end e
    refine ev_succ ?_
    simp only [spec_l2Order.l0.eq_2]
    refine ev_neg (by omega) ?_
    exact ev_now rfl
  | cons c suf ih =>
    intro pre e
    have h := len_mid e
    refine ev_succ ?_
    simp only [spec_l2Order.l0.eq_2, rd_mid' e, take_mid e]
    refine ev_pos (by omega) (ev_pos (by omega) (ev_bind (in_ev _ _ _) ?_))
    by_cases hr : 1 ≤ c ∧ c ≤ (l.length : Int)
    · refine ev_pos (by simp [hr.1, hr.2]) (ev_pos (by omega) (ev_bind (has_ev pre c (by omega)) ?_))
      by_cases hc : c ∈ pre
      · exact ev_pos (by simp [hc]) (ev_now (by simp [ordGo, hc]))
      · refine ev_neg (by simp [hc]) ?_
        rw [wrap_snoc (pre := pre) (c := c) (by omega)]
        refine ev_eq (ih _ (snoc_mid e)) ?_
        simp [ordGo, hr.1, hr.2, hc]
    · refine ev_neg (by simp; omega) (ev_now ?_)
      simp only [ordGo]
      rw [if_neg (fun h => hr ⟨h.1, h.2.1⟩)]
theorem spec_order_ev (l : List Int) (hl : l.length ≤ 140737488351232) : Ev (fun k => spec_l2Order.f k l) (isOrd l) := by
  unfold spec_l2Order.f
  refine ev_bind (in_ev _ _ _) ?_
  unfold isOrd
  by_cases h : 1 ≤ l.length ∧ l.length ≤ 7
  · refine ev_pos (by simp; omega) ?_
    rw [if_pos h]
    exact spec_order_l l hl l [] rfl
  · refine ev_neg (by simp; omega) (ev_now ?_)
    rw [if_neg h]
theorem impl_order_l (l : List Int) (hl : l.length ≤ 140737488351232) : ∀ (suf pre : List Int), l = pre ++ suf → Ev (fun k => impl_isOrder.l0 k l l (l.length : Int) (pre.length : Int)) (ordGo (l.length : Int) pre suf) := by
  intro suf
  induction suf with
  | nil =>
    intro pre e
    have h := len_end e
    refine ev_succ ?_
    simp only [impl_isOrder.l0.eq_2]
    refine ev_neg (by omega) ?_
    exact ev_now rfl
  | cons c suf ih =>
    intro pre e
    have h := len_mid e
    refine ev_succ ?_
    simp only [impl_isOrder.l0.eq_2, rd_mid' e, take_mid e]
    refine ev_pos (by omega) (ev_pos (by omega) (ev_pos (by omega) ?_))
    by_cases h1 : c < 1
    · exact ev_pos h1 (ev_now (by simp only [ordGo]; rw [if_neg (fun h => by omega)]))
    refine ev_neg h1 ?_
    by_cases h2 : c > (l.length : Int)
    · exact ev_pos h2 (ev_now (by simp only [ordGo]; rw [if_neg (fun h => by omega)]))
    refine ev_neg h2 (ev_pos (by omega) (ev_bind (contains_ev pre c (by omega)) ?_))
    by_cases hc : c ∈ pre
    · exact ev_pos (by simp [hc]) (ev_now (by simp [ordGo, hc]))
    · refine ev_neg (by simp [hc]) ?_
      rw [wrap_snoc (pre := pre) (c := c) (by omega)]
      refine ev_eq (ih _ (snoc_mid e)) ?_
      simp only [ordGo]
      rw [if_pos ⟨by omega, by omega, hc⟩]
theorem impl_order_ev (l : List Int) (hl : l.length ≤ 140737488351232) : Ev (fun k => impl_isOrder.f k l) (isOrd l) := by
  have key : ∀ b : Bool, Ev (fun k => impl_isOrder.j0 k l b) (if b = true then false else ordGo (l.length : Int) [] l) := by
    intro b
    refine ev_succ ?_
    simp only [impl_isOrder.j0.eq_2]
    cases b with
    | true => exact ev_pos rfl (ev_now rfl)
    | false => exact ev_neg (by simp) (impl_order_l l hl l [] rfl)
  unfold impl_isOrder.f isOrd
  by_cases h1 : (l.length : Int) < 1
  · refine ev_pos h1 (ev_eq (key true) ?_)
    rw [if_pos rfl, if_neg (fun h => by omega)]
  · refine ev_neg h1 (ev_eq (key _) ?_)
    by_cases h2 : (l.length : Int) > 7
    · rw [if_neg (c := 1 ≤ l.length ∧ l.length ≤ 7) (fun h => by omega), if_pos (decide_eq_true h2)]
    · rw [if_pos (c := 1 ≤ l.length ∧ l.length ≤ 7) ⟨by omega, by omega⟩, if_neg (by simp; omega)]

/-! ### laws.markIntS, laws.heldIntS -/
theorem mark_l : ∀ (suf pre : List Int) (x : Int), 0 ≤ x → x + suf.length ≤ 4611686018427387904 → pre.length + suf.length ≤ 4611686018427387904 → Ev (fun k => laws_markIntS.l0 k (pre ++ suf) x (pre.length : Int)) (x + suf.length, pre ++ iota x suf.length) := by
  intro suf
  induction suf with
  | nil =>
    intro pre x h0 h1 h2
    refine ev_succ ?_
    simp only [laws_markIntS.l0.eq_2]
    refine ev_neg (by simp) ?_
    exact ev_now (by simp [iota])
  | cons c suf ih =>
    intro pre x h0 h1 h2
    simp only [List.length_cons] at h1 h2
    refine ev_succ ?_
    simp only [laws_markIntS.l0.eq_2]
    refine ev_pos (by simp; omega) (ev_pos (by omega) ?_)
    have e2 : (pre ++ c :: suf).set ((pre.length : Int)).toNat x = (pre ++ [x]) ++ suf := by simp
    rw [wrap_snoc (pre := pre) (c := x) (by omega), e2, wrap_of (by omega) (by omega)]
    refine ev_eq (ih (pre ++ [x]) (x + 1) (by omega) (by omega) (by simp; omega)) ?_
    simp [iota]; omega
theorem mark_ev (l : List Int) (x : Int) (h0 : 0 ≤ x) (h1 : x + l.length ≤ 4611686018427387904) : Ev (fun k => laws_markIntS.f k l x) (x + l.length, iota x l.length) := by
  unfold laws_markIntS.f
  have := mark_l l [] x h0 h1 (by simp; omega)
  simpa using this
theorem held_l : ∀ (n : Nat) (pre : List Int) (x : Int), 0 ≤ x → x + n ≤ 4611686018427387904 → pre.length + n ≤ 4611686018427387904 → Ev (fun k => laws_heldIntS.l0 k (pre ++ iota x n) x (pre.length : Int)) (x + n) := by
  intro n
  induction n with
  | zero =>
    intro pre x h0 h1 h2
    refine ev_succ ?_
    simp only [laws_heldIntS.l0.eq_2]
    refine ev_neg (by simp [iota]) ?_
    exact ev_now (by simp)
  | succ n ih =>
    intro pre x h0 h1 h2
    refine ev_succ ?_
    simp only [laws_heldIntS.l0.eq_2, iota, rd_mid]
    refine ev_pos (by simp; omega) (ev_pos (by omega) (ev_pos trivial ?_))
    rw [wrap_snoc (pre := pre) (c := x) (by omega), wrap_of (by omega) (by omega), show pre ++ x :: iota (x + 1) n = (pre ++ [x]) ++ iota (x + 1) n by simp]
    refine ev_eq (ih (pre ++ [x]) (x + 1) (by omega) (by omega) (by simp; omega)) ?_
    omega
theorem held_ev (n : Nat) (x : Int) (h0 : 0 ≤ x) (h1 : x + n ≤ 4611686018427387904) : Ev (fun k => laws_heldIntS.f k (iota x n) x) (x + n) := by
  unfold laws_heldIntS.f
  have := held_l n [] x h0 h1 (by simp; omega)
  simpa using this

/-- The law's frame: where both sides come to one list, of at most a million numbers. -/
theorem law_frame (l out : List Int) (b : Bool) (hl : l.length * 8 ≤ 140737488351232) (ho : out.length ≤ 1000000)
    (hs : Ev (fun k => spec_BackOrder.f k l) (out, b)) (hi : Ev (fun k => impl_BackOrder.f k l) (out, b)) : Ev (fun k => laws_FnExactBackOrder.f k l) true := by
  unfold laws_FnExactBackOrder.f
  by_cases h1 : (l.length : Int) > 1048576
  · exact ev_pos h1 (ev_now rfl)
  refine ev_neg h1 (ev_bind (toInt_ev l hl) (ev_bind hs (ev_bind (toInt_ev l hl) (ev_bind hi (ev_bind (eqInt_ev out out (by omega)) (ev_pos (by simp) ?_))))))
  refine ev_succ ?_
  simp only [laws_FnExactBackOrder.j0.eq_2]
  refine ev_neg (by simp) (ev_bind (toInt_ev l hl) (ev_bind (eqInt_ev l l hl) (ev_pos (by simp) (ev_bind (mark_ev l 1 (by omega) (by omega)) (ev_neg (by omega) (ev_bind (eqInt_ev out out (by omega)) (ev_pos (by simp) ?_)))))))
  refine ev_succ ?_
  simp only [laws_FnExactBackOrder.j1.eq_2]
  refine ev_neg (by simp) (ev_bind (mark_ev out 1 (by omega) (by omega)) (ev_bind (held_ev _ 1 (by omega) (by omega)) (ev_neg (by omega) (ev_pos rfl (ev_bind (toInt_ev l hl) (ev_bind hi (ev_bind (eqInt_ev out out (by omega)) (ev_pos (by simp) ?_))))))))
  refine ev_succ ?_
  simp only [laws_FnExactBackOrder.j2.eq_2]
  exact ev_neg (by simp) (ev_bind (held_ev _ 1 (by omega) (by omega)) (ev_neg (by omega) (ev_pos rfl (ev_now rfl))))

/-! ### BackOrder: from the last number to the first -/
theorem spec_back_loop (l : List Int) (hl : l.length ≤ 7) : ∀ (p suf acc : List Int), l = p.reverse ++ suf → acc.length + p.length ≤ 7 → Ev (fun k => spec_l2Back.l0 k l acc ((p.length : Int) - 1)) (acc ++ p) := by
  intro p
  induction p with
  | nil =>
    intro suf acc h ha
    refine ev_succ ?_
    simp only [spec_l2Back.l0.eq_2]
    exact ev_neg (by simp) (ev_now (by simp))
  | cons c p ih =>
    intro suf acc h ha
    have hll : l.length = p.length + 1 + suf.length := by rw [h]; simp; omega
    have e1 : (((c :: p).length : Nat) : Int) - 1 = (p.reverse.length : Int) := by simp
    have hm : l = p.reverse ++ c :: suf := by rw [h]; simp
    rw [e1]
    refine ev_succ ?_
    simp only [spec_l2Back.l0.eq_2]
    refine ev_pos (by simp) (ev_pos (by simp) (ev_pos (by simp; omega) (ev_pos (by omega) ?_)))
    rw [rd_mid' hm, wrap_of (by simp; omega) (by simp; omega)]
    have e2 : ((p.reverse.length : Nat) : Int) - 1 = (p.length : Int) - 1 := by simp
    rw [e2]
    exact ev_eq (ih (c :: suf) (acc ++ [c]) hm (by simp at ha ⊢; omega)) (by simp)
theorem spec_back_ev (l : List Int) (hl : l.length ≤ 7) : Ev (fun k => spec_l2Back.f k l) l.reverse := by
  unfold spec_l2Back.f
  have h := spec_back_loop l hl l.reverse [] [] (by simp) (by simpa using hl)
  rw [wrap_of (by omega) (by omega)]
  simpa using h

theorem reverse_ev (l : List Int) (hl : l.length ≤ 7) : Ev (fun k => slices_Reverse_int_int.f k l) l.reverse := by
  refine Ev.of (fun k => slices_Reverse_int_int.mono _ k) (k := 12) ?_
  match l, hl with
  | [], _ => simp [slices_Reverse_int_int.f, slices_Reverse_int_int.l0, wrap64, rd]
  | [a], _ => simp [slices_Reverse_int_int.f, slices_Reverse_int_int.l0, wrap64, rd]
  | [a, b], _ => simp [slices_Reverse_int_int.f, slices_Reverse_int_int.l0, wrap64, rd]
  | [a, b, c], _ => simp [slices_Reverse_int_int.f, slices_Reverse_int_int.l0, wrap64, rd]
  | [a, b, c, d], _ => simp [slices_Reverse_int_int.f, slices_Reverse_int_int.l0, wrap64, rd]
  | [a, b, c, d, e], _ => simp [slices_Reverse_int_int.f, slices_Reverse_int_int.l0, wrap64, rd]
  | [a, b, c, d, e, f], _ => simp [slices_Reverse_int_int.f, slices_Reverse_int_int.l0, wrap64, rd]
  | [a, b, c, d, e, f, g], _ => simp [slices_Reverse_int_int.f, slices_Reverse_int_int.l0, wrap64, rd]
  | a :: b :: c :: d :: e :: f :: g :: h :: t, hl => simp only [List.length_cons] at hl; omega
theorem clone_ev (l : List Int) (hl : l.length ≤ 1000000) : Ev (fun _ => slices_Clone_int_int.f l) l := by
  unfold slices_Clone_int_int.f
  exact ev_pos (by omega) (ev_now rfl)
theorem impl_back_ev (l : List Int) (hl : l.length ≤ 7) : Ev (fun k => impl_back.f k l) l.reverse := by
  unfold impl_back.f
  exact ev_bind (clone_ev l (by omega)) (ev_bind (reverse_ev l hl) (ev_now rfl))

def backR (l : List Int) : List Int × Bool := onOrd l [] l.reverse
theorem spec_backorder_ev (l : List Int) (hl : l.length ≤ 140737488351232) : Ev (fun k => spec_BackOrder.f k l) (backR l) := by
  unfold spec_BackOrder.f backR
  by_cases ho : isOrd l = true
  · rw [onOrd_pos ho]; exact ev_bind (spec_order_ev l hl) (ev_pos ho (ev_bind (spec_back_ev l (ord_len ho).2) (ev_now rfl)))
  · rw [onOrd_neg ho]; exact ev_bind (spec_order_ev l hl) (ev_neg ho (ev_now rfl))
theorem impl_backorder_ev (l : List Int) (hl : l.length ≤ 140737488351232) : Ev (fun k => impl_BackOrder.f k l) (backR l) := by
  unfold impl_BackOrder.f backR
  by_cases ho : isOrd l = true
  · rw [onOrd_pos ho]; exact ev_bind (impl_order_ev l hl) (ev_pos ho (ev_bind (impl_back_ev l (ord_len ho).2) (ev_now rfl)))
  · rw [onOrd_neg ho]; exact ev_bind (impl_order_ev l hl) (ev_neg ho (ev_now rfl))

theorem FnExactBackOrder : laws_FnExactBackOrder.Pure := by
  intro l hm hl hw
  apply Ev.rounds (r := true)
  have hl' := len_max hl
  refine law_frame l (backR l).1 (backR l).2 hl ?_ (spec_backorder_ev l hl') (impl_backorder_ev l hl')
  unfold backR onOrd; split
  · simp; have := ord_len ‹_›; omega
  · simp
end Go.Proofs.Ytcocnmolojcoaaa.Pure
