/- The pure statement of FnExactParseOrder: program and reference read the same order of a text. No condition. -/
import Derived.Test.YtmkgigagfhhgcaaMFnExactParseOrderx3
import Derived.Test.YtmkgigagfhhgcaaBase
namespace Go.Proofs.Ytmkgigagfhhgcaa.Pure
open Go.RowKit Go.Proofs.Ytmkgigagfhhgcaa.MFnExactParseOrder Go.Proofs.YtmkgigagfhhgcaaW.PrintWords Go.Proofs.Ytmkgigagfhhgcaa.Base
set_option linter.unusedVariables false
set_option linter.unusedSimpArgs false
theorem eqInt_l (a b : List Int) (hl : a.length * 8 ≤ 140737488351232) : ∀ (s t pre q : List Int), a = pre ++ s → b = q ++ t → pre.length = q.length → s.length = t.length → Ev (fun k => laws_eqIntS.l0 k a b (pre.length : Int)) (decide (s = t)) := by
  intro s
  induction s with
  | nil =>
    intro t pre q e e' h1 h2
    have h := len_end e
    obtain rfl : t = [] := by cases t with
      | nil => rfl
      | cons _ _ => simp at h2
    refine ev_succ ?_
    simp only [laws_eqIntS.l0.eq_2]
    refine ev_neg (by omega) ?_
    exact ev_now (by simp)
  | cons c s ih =>
    intro t pre q e e' h1 h2
    cases t with
    | nil => simp at h2
    | cons d t =>
    have h := len_mid e
    have h' := len_mid e'
    refine ev_succ ?_
    have r1 := rd_mid' e
    have r2 := rd_mid' e'
    rw [← h1] at r2
    simp only [laws_eqIntS.l0.eq_2, r1, r2]
    refine ev_pos (by omega) (ev_pos (by omega) (ev_pos (by omega) ?_))
    by_cases hc : c = d
    · refine ev_pos hc ?_
      rw [wrap_snoc (pre := pre) (c := c) (by omega)]
      refine ev_eq (ih t (pre ++ [c]) (q ++ [d]) (snoc_mid e) (snoc_mid e') (by simp [h1]) (by simpa using h2)) ?_
      simp [hc]
    · refine ev_neg hc (ev_now ?_)
      simp [hc]
theorem eqInt_ev (a b : List Int) (hl : a.length * 8 ≤ 140737488351232) : Ev (fun k => laws_eqIntS.f k a b) (decide (a = b)) := by
  unfold laws_eqIntS.f
  by_cases h : a.length = b.length
  · refine ev_pos (by omega) ?_
    exact eqInt_l a b hl a b [] [] rfl rfl rfl h
  · refine ev_neg (by omega) (ev_now ?_)
    symm
    exact decide_eq_false (fun e => h (by rw [e]))

/-! ### Is it an order? -/
theorem in_ev (a b c : Int) : Ev (fun _ => spec_l1In.f a b c) (decide (b ≤ a) && decide (a ≤ c)) := by
  unfold spec_l1In.f
  by_cases h : a ≥ b
  · refine ev_pos h (ev_now ?_)
    have : decide (b ≤ a) = true := decide_eq_true h
    rw [this]; rfl
  · refine ev_neg h (ev_now ?_)
    have : decide (b ≤ a) = false := decide_eq_false (by omega)
    rw [this]; rfl

theorem has_l (l : List Int) (x : Int) (hl : l.length ≤ 140737488351232) : ∀ (suf pre : List Int), l = pre ++ suf → Ev (fun k => spec_l1Has.l0 k l x (pre.length : Int)) (decide (x ∈ suf)) := by
  intro suf
  induction suf with
  | nil =>
    intro pre e
    have h := len_end e
    refine ev_succ ?_
    simp only [spec_l1Has.l0.eq_2]
    refine ev_neg (by omega) ?_
    exact ev_now (by simp)
  | cons c suf ih =>
    intro pre e
    have h := len_mid e
    refine ev_succ ?_
    simp only [spec_l1Has.l0.eq_2, rd_mid' e]
    refine ev_pos (by omega) (ev_pos (by omega) ?_)
    by_cases hc : c = x
    · exact ev_pos hc (ev_now (by simp [hc]))
    · refine ev_neg hc ?_
      rw [wrap_snoc (pre := pre) (c := c) (by omega)]
      refine ev_eq (ih _ (snoc_mid e)) ?_
      have : x ≠ c := fun h => hc h.symm
      simp [this]
theorem has_ev (l : List Int) (x : Int) (hl : l.length ≤ 140737488351232) : Ev (fun k => spec_l1Has.f k l x) (decide (x ∈ l)) := by
  unfold spec_l1Has.f
  exact has_l l x hl l [] rfl
theorem idx_l (l : List Int) (x : Int) (hl : l.length ≤ 140737488351232) : ∀ (suf pre : List Int), l = pre ++ suf → Ev (fun k => slices_Index_int_int.l0 k l x (l.length : Int) (pre.length : Int)) (if x ∈ suf then ((pre.length + suf.idxOf x : Nat) : Int) else -1) := by
  intro suf
  induction suf with
  | nil =>
    intro pre e
    have h := len_end e
    refine ev_succ ?_
    simp only [slices_Index_int_int.l0.eq_2]
    refine ev_neg (by omega) ?_
    exact ev_now (by simp)
  | cons c suf ih =>
    intro pre e
    have h := len_mid e
    refine ev_succ ?_
    simp only [slices_Index_int_int.l0.eq_2, rd_mid' e]
    refine ev_pos (by omega) (ev_pos (by omega) (ev_pos (by omega) ?_))
    by_cases hc : x = c
    · exact ev_pos hc (ev_now (by simp [hc]))
    · refine ev_neg hc ?_
      rw [wrap_snoc (pre := pre) (c := c) (by omega)]
      refine ev_eq (ih _ (snoc_mid e)) ?_
      have hc' : ¬ c = x := fun h => hc h.symm
      have hb : (c == x) = false := by simpa using hc'
      simp only [List.mem_cons, hc, false_or, List.idxOf_cons, hb, cond_false]
      by_cases hm : x ∈ suf
      · rw [if_pos hm, if_pos hm]; simp; omega
      · rw [if_neg hm, if_neg hm]
theorem idx_ev (l : List Int) (x : Int) (hl : l.length ≤ 140737488351232) : Ev (fun k => slices_Index_int_int.f k l x) (if x ∈ l then ((l.idxOf x : Nat) : Int) else -1) := by
  unfold slices_Index_int_int.f
  simpa using idx_l l x hl l [] rfl
theorem contains_ev (l : List Int) (x : Int) (hl : l.length ≤ 140737488351232) : Ev (fun k => slices_Contains_int_int.f k l x) (decide (x ∈ l)) := by
  unfold slices_Contains_int_int.f
  refine ev_bind (idx_ev l x hl) (ev_now ?_)
  by_cases h : x ∈ l
  · simp [h]
  · simp [h]

theorem spec_order_l (l : List Int) (hl : l.length ≤ 140737488351232) : ∀ (suf pre : List Int), l = pre ++ suf → Ev (fun k => spec_l2Order.l0 k l (pre.length : Int)) (ordGo (l.length : Int) pre suf) := by
  intro suf
  induction suf with
  | nil =>
    intro pre e
    have h := len_end e
    refine ev_succ ?_
    simp only [spec_l2Order.l0.eq_2]
    refine ev_neg (by omega) ?_
    exact ev_now rfl
  | cons c suf ih =>
    intro pre e
    have h := len_mid e
    refine ev_succ ?_
    simp only [spec_l2Order.l0.eq_2, rd_mid' e, take_mid e]
    refine ev_pos (by omega) (ev_pos (by omega) (ev_bind (in_ev _ _ _) ?_))
    by_cases hr : 1 ≤ c ∧ c ≤ (l.length : Int)
    · refine ev_pos (by simp [hr.1, hr.2]) (ev_pos (by omega) (ev_bind (has_ev pre c (by omega)) ?_))
      by_cases hc : c ∈ pre
      · exact ev_pos (by simp [hc]) (ev_now (by simp [ordGo, hc]))
      · refine ev_neg (by simp [hc]) ?_
        rw [wrap_snoc (pre := pre) (c := c) (by omega)]
        refine ev_eq (ih _ (snoc_mid e)) ?_
        simp [ordGo, hr.1, hr.2, hc]
    · refine ev_neg (by simp; omega) (ev_now ?_)
      simp only [ordGo]
      rw [if_neg (fun h => hr ⟨h.1, h.2.1⟩)]
theorem spec_order_ev (l : List Int) (hl : l.length ≤ 140737488351232) : Ev (fun k => spec_l2Order.f k l) (isOrd l) := by
  unfold spec_l2Order.f
  refine ev_bind (in_ev _ _ _) ?_
  unfold isOrd
  by_cases h : 1 ≤ l.length ∧ l.length ≤ 7
  · refine ev_pos (by simp; omega) ?_
    rw [if_pos h]
    exact spec_order_l l hl l [] rfl
  · refine ev_neg (by simp; omega) (ev_now ?_)
    rw [if_neg h]
theorem impl_order_l (l : List Int) (hl : l.length ≤ 140737488351232) : ∀ (suf pre : List Int), l = pre ++ suf → Ev (fun k => impl_isOrder.l0 k l l (l.length : Int) (pre.length : Int)) (ordGo (l.length : Int) pre suf) := by
  intro suf
  induction suf with
  | nil =>
    intro pre e
    have h := len_end e
    refine ev_succ ?_
    simp only [impl_isOrder.l0.eq_2]
    refine ev_neg (by omega) ?_
    exact ev_now rfl
  | cons c suf ih =>
    intro pre e
    have h := len_mid e
    refine ev_succ ?_
    simp only [impl_isOrder.l0.eq_2, rd_mid' e, take_mid e]
    refine ev_pos (by omega) (ev_pos (by omega) (ev_pos (by omega) ?_))
    by_cases h1 : c < 1
    · exact ev_pos h1 (ev_now (by simp only [ordGo]; rw [if_neg (fun h => by omega)]))
    refine ev_neg h1 ?_
    by_cases h2 : c > (l.length : Int)
    · exact ev_pos h2 (ev_now (by simp only [ordGo]; rw [if_neg (fun h => by omega)]))
    refine ev_neg h2 (ev_pos (by omega) (ev_bind (contains_ev pre c (by omega)) ?_))
    by_cases hc : c ∈ pre
    · exact ev_pos (by simp [hc]) (ev_now (by simp [ordGo, hc]))
    · refine ev_neg (by simp [hc]) ?_
      rw [wrap_snoc (pre := pre) (c := c) (by omega)]
      refine ev_eq (ih _ (snoc_mid e)) ?_
      simp only [ordGo]
      rw [if_pos ⟨by omega, by omega, hc⟩]
theorem impl_order_ev (l : List Int) (hl : l.length ≤ 140737488351232) : Ev (fun k => impl_isOrder.f k l) (isOrd l) := by
  have key : ∀ b : Bool, Ev (fun k => impl_isOrder.j0 k l b) (if b = true then false else ordGo (l.length : Int) [] l) := by
    intro b
    refine ev_succ ?_
    simp only [impl_isOrder.j0.eq_2]
    cases b with
    | true => exact ev_pos rfl (ev_now rfl)
    | false => exact ev_neg (by simp) (impl_order_l l hl l [] rfl)
  unfold impl_isOrder.f isOrd
  by_cases h1 : (l.length : Int) < 1
  · refine ev_pos h1 (ev_eq (key true) ?_)
    rw [if_pos rfl, if_neg (fun h => by omega)]
  · refine ev_neg h1 (ev_eq (key _) ?_)
    by_cases h2 : (l.length : Int) > 7
    · rw [if_neg (c := 1 ≤ l.length ∧ l.length ≤ 7) (fun h => by omega), if_pos (decide_eq_true h2)]
    · rw [if_pos (c := 1 ≤ l.length ∧ l.length ≤ 7) ⟨by omega, by omega⟩, if_neg (by simp; omega)]

/-! ### laws.markIntS, laws.heldIntS -/
theorem mark_l : ∀ (suf pre : List Int) (x : Int), 0 ≤ x → x + suf.length ≤ 4611686018427387904 → pre.length + suf.length ≤ 4611686018427387904 → Ev (fun k => laws_markIntS.l0 k (pre ++ suf) x (pre.length : Int)) (x + suf.length, pre ++ iota x suf.length) := by
  intro suf
  induction suf with
  | nil =>
    intro pre x h0 h1 h2
    refine ev_succ ?_
    simp only [laws_markIntS.l0.eq_2]
    refine ev_neg (by simp) ?_
    exact ev_now (by simp [iota])
  | cons c suf ih =>
    intro pre x h0 h1 h2
    simp only [List.length_cons] at h1 h2
    refine ev_succ ?_
    simp only [laws_markIntS.l0.eq_2]
    refine ev_pos (by simp; omega) (ev_pos (by omega) ?_)
    have e2 : (pre ++ c :: suf).set ((pre.length : Int)).toNat x = (pre ++ [x]) ++ suf := by simp
    rw [wrap_snoc (pre := pre) (c := x) (by omega), e2, wrap_of (by omega) (by omega)]
    refine ev_eq (ih (pre ++ [x]) (x + 1) (by omega) (by omega) (by simp; omega)) ?_
    simp [iota]; omega
theorem mark_ev (l : List Int) (x : Int) (h0 : 0 ≤ x) (h1 : x + l.length ≤ 4611686018427387904) : Ev (fun k => laws_markIntS.f k l x) (x + l.length, iota x l.length) := by
  unfold laws_markIntS.f
  have := mark_l l [] x h0 h1 (by simp; omega)
  simpa using this
theorem held_l : ∀ (n : Nat) (pre : List Int) (x : Int), 0 ≤ x → x + n ≤ 4611686018427387904 → pre.length + n ≤ 4611686018427387904 → Ev (fun k => laws_heldIntS.l0 k (pre ++ iota x n) x (pre.length : Int)) (x + n) := by
  intro n
  induction n with
  | zero =>
    intro pre x h0 h1 h2
    refine ev_succ ?_
    simp only [laws_heldIntS.l0.eq_2]
    refine ev_neg (by simp [iota]) ?_
    exact ev_now (by simp)
  | succ n ih =>
    intro pre x h0 h1 h2
    refine ev_succ ?_
    simp only [laws_heldIntS.l0.eq_2, iota, rd_mid]
    refine ev_pos (by simp; omega) (ev_pos (by omega) (ev_pos trivial ?_))
    rw [wrap_snoc (pre := pre) (c := x) (by omega), wrap_of (by omega) (by omega), show pre ++ x :: iota (x + 1) n = (pre ++ [x]) ++ iota (x + 1) n by simp]
    refine ev_eq (ih (pre ++ [x]) (x + 1) (by omega) (by omega) (by simp; omega)) ?_
    omega
theorem held_ev (n : Nat) (x : Int) (h0 : 0 ≤ x) (h1 : x + n ≤ 4611686018427387904) : Ev (fun k => laws_heldIntS.f k (iota x n) x) (x + n) := by
  unfold laws_heldIntS.f
  have := held_l n [] x h0 h1 (by simp; omega)
  simpa using this

/-! ### ParseOrder -/
theorem spec_parse_l (s : ByteArray) (hs : s.size ≤ 7) : ∀ (suf pre out : List Int), bytesOf s = pre ++ suf → out = pre.map (fun c => c - 48) → Ev (fun k => spec_l2Parse.l0 k s out (pre.length : Int)) (parseR s) := by
  intro suf
  induction suf with
  | nil =>
    intro pre out e ho
    have h := size_end e
    refine ev_succ ?_
    simp only [spec_l2Parse.l0.eq_2]
    have e2 : out = digs s := by rw [ho]; unfold digs; rw [e]; simp
    refine ev_neg (by omega) (ev_bind (spec_order_ev out (by rw [ho]; simp; omega)) ?_)
    unfold parseR
    rw [e2]
    by_cases hq : isOrd (digs s) = true
    · rw [onOrd_pos hq]; exact ev_pos hq (ev_now rfl)
    · rw [onOrd_neg hq]; exact ev_neg hq (ev_now rfl)
  | cons c suf ih =>
    intro pre out e ho
    have h := size_mid e
    have hc := bytes_range (s := s) (c := c) (by rw [e]; simp)
    refine ev_succ ?_
    simp only [spec_l2Parse.l0.eq_2, bt_mid e]
    rw [wrap_of (x := c) (by omega) (by omega), wrap_of (x := c - 48) (by omega) (by omega), wrap_snoc (pre := pre) (c := c) (by omega)]
    refine ev_pos (by omega) (ev_pos (by omega) (ev_pos (by rw [ho]; simp; omega) ?_))
    exact ih _ _ (snoc_mid e) (by rw [ho]; simp)
theorem digs_length (s : ByteArray) : (digs s).length = s.size := by unfold digs; rw [List.length_map, bytes_len]
theorem parse_long {s : ByteArray} (h : ¬ s.size ≤ 7) : parseR s = ([], false) := by
  unfold parseR
  apply onOrd_neg
  intro ho
  have := ord_len ho
  rw [digs_length] at this
  omega
theorem spec_parse_ev (s : ByteArray) : Ev (fun k => spec_l2Parse.f k s) (parseR s) := by
  unfold spec_l2Parse.f
  refine ev_let ?_
  by_cases h : (s.size : Int) > 7
  · exact ev_pos h (ev_now (parse_long (by omega)).symm)
  · exact ev_neg h (spec_parse_l s (by omega) (bytesOf s) [] [] rfl rfl)
theorem spec_parseorder_ev (s : ByteArray) : Ev (fun k => spec_ParseOrder.f k s) (parseR s) := by
  unfold spec_ParseOrder.f
  exact ev_bind (spec_parse_ev s) (ev_now rfl)
theorem impl_parse_l (s : ByteArray) (hs : s.size ≤ 140737488351232) (m : Nat) (hm : m = min s.size 8) : ∀ (suf pre out : List Int), bytesOf s = pre ++ suf → pre.length ≤ m → out = pre.map (fun c => c - 48) → Ev (fun k => impl_ParseOrder.l0 k s out (m : Int) (pre.length : Int)) (parseR s) := by
  intro suf
  have last : ∀ (suf pre out : List Int), bytesOf s = pre ++ suf → pre.length = m → out = pre.map (fun c => c - 48) → Ev (fun k => impl_ParseOrder.l0 k s out (m : Int) (pre.length : Int)) (parseR s) := by
    intro suf pre out e hp ho
    refine ev_succ ?_
    simp only [impl_ParseOrder.l0.eq_2]
    have hl : out.length = m := by rw [ho]; simpa using hp
    refine ev_neg (by omega) (ev_bind (impl_order_ev out (by omega)) ?_)
    by_cases h8 : s.size ≤ 7
    · have hb := bytes_len s
      have h0 : suf = [] := by
        have : (bytesOf s).length = pre.length + suf.length := by rw [e]; simp
        exact List.length_eq_zero_iff.1 (by omega)
      have e2 : out = digs s := by rw [ho]; unfold digs; rw [e, h0]; simp
      unfold parseR
      rw [e2]
      by_cases hq : isOrd (digs s) = true
      · rw [onOrd_pos hq]; exact ev_pos hq (ev_now rfl)
      · rw [onOrd_neg hq]; exact ev_neg hq (ev_now rfl)
    · rw [parse_long h8]
      refine ev_neg (fun hq => ?_) (ev_now rfl)
      have := ord_len hq
      omega
  induction suf with
  | nil =>
    intro pre out e hp ho
    have h := size_end e
    exact last [] pre out e (by omega) ho
  | cons c suf ih =>
    intro pre out e hp ho
    have h := size_mid e
    by_cases hlt : pre.length < m
    · have hc := bytes_range (s := s) (c := c) (by rw [e]; simp)
      refine ev_succ ?_
      simp only [impl_ParseOrder.l0.eq_2, bt_mid e]
      rw [wrap_of (x := c) (by omega) (by omega), wrap_of (x := c - 48) (by omega) (by omega), wrap_snoc (pre := pre) (c := c) (by omega)]
      refine ev_pos (by omega) (ev_pos (by omega) (ev_pos (by omega) (ev_pos (by rw [ho]; simp; omega) ?_)))
      exact ih _ _ (snoc_mid e) (by simp; omega) (by rw [ho]; simp)
    · exact last (c :: suf) pre out e (by omega) ho
theorem impl_parseorder_ev (s : ByteArray) (hs : s.size ≤ 140737488351232) : Ev (fun k => impl_ParseOrder.f k s) (parseR s) := by
  unfold impl_ParseOrder.f
  have : mn (s.size : Int) 8 = ((min s.size 8 : Nat) : Int) := by unfold mn; split <;> omega
  rw [this]
  exact impl_parse_l s hs _ rfl (bytesOf s) [] [] rfl (by simp) rfl

theorem FnExactParseOrder : laws_FnExactParseOrder.Pure := by
  intro s hs
  apply Ev.rounds (r := true)
  have hp := spec_parseorder_ev s
  have hi := impl_parseorder_ev s hs
  have hl : (parseR s).1.length ≤ 7 := by
    unfold parseR onOrd
    split
    · have := ord_len ‹_›; simp only; omega
    · simp
  unfold laws_FnExactParseOrder.f
  by_cases h1 : (s.size : Int) > 1048576
  · exact ev_pos h1 (ev_now rfl)
  refine ev_neg h1 (ev_bind hp (ev_bind hi (ev_bind (eqInt_ev _ _ (by omega)) (ev_pos (by simp) ?_))))
  refine ev_succ ?_
  simp only [laws_FnExactParseOrder.j0.eq_2]
  refine ev_neg (by simp) (ev_bind (mark_ev _ 1 (by omega) (by omega)) (ev_bind (held_ev _ 1 (by omega) (by omega)) (ev_neg (by omega) (ev_pos rfl (ev_bind hi (ev_bind (eqInt_ev _ _ (by omega)) (ev_pos (by simp) ?_)))))))
  refine ev_succ ?_
  simp only [laws_FnExactParseOrder.j1.eq_2]
  exact ev_neg (by simp) (ev_bind (held_ev _ 1 (by omega) (by omega)) (ev_neg (by omega) (ev_pos rfl (ev_now rfl))))
end Go.Proofs.Ytmkgigagfhhgcaa.Pure
