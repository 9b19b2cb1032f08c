/- The pure statement of FnExactOrderAt: program and reference tell the same order. No condition. -/
import Derived.Test.YtcocnmolojcoaaaMFnExactOrderAtx3
import Derived.Test.YtcocnmolojcoaaaBase
import Derived.Test.YtcocnmolojcoaaaBaseP
import Derived.Test.YtcocnmolojcoaaaBaseO
namespace Go.Proofs.Ytcocnmolojcoaaa.Pure
open Go Go.RowKit Go.Proofs.Ytcocnmolojcoaaa.MFnExactOrderAt Go.Proofs.YtcocnmolojcoaaaW.PrintWords Go.Proofs.Ytcocnmolojcoaaa.Base
set_option linter.unusedVariables false
set_option linter.unusedSimpArgs false
theorem eqInt_l (a b : List Int) (hl : a.length * 8 ≤ 140737488351232) : ∀ (s t pre q : List Int), a = pre ++ s → b = q ++ t → pre.length = q.length → s.length = t.length → Ev (fun k => laws_eqIntS.l0 k a b (pre.length : Int)) (decide (s = t)) := by
  intro s
  induction s with
  | nil =>
    intro t pre q e e' h1 h2
    have h := len_end e
    obtain rfl : t = [] := by cases t with
      | nil => rfl
      | cons _ _ => simp at h2
    refine ev_succ ?_
    simp only [laws_eqIntS.l0.eq_2]
    refine ev_neg (by omega) ?_
    exact ev_now (by simp)
  | cons c s ih =>
    intro t pre q e e' h1 h2
    cases t with
    | nil => simp at h2
    | cons d t =>
    have h := len_mid e
    have h' := len_mid e'
    refine ev_succ ?_
    have r1 := rd_mid' e
    have r2 := rd_mid' e'
    rw [← h1] at r2
    simp only [laws_eqIntS.l0.eq_2, r1, r2]
    refine ev_pos (by omega) (ev_pos (by omega) (ev_pos (by omega) ?_))
    by_cases hc : c = d
    · refine ev_pos hc ?_
      rw [wrap_snoc (pre := pre) (c := c) (by omega)]
      refine ev_eq (ih t (pre ++ [c]) (q ++ [d]) (snoc_mid e) (snoc_mid e') (by simp [h1]) (by simpa using h2)) ?_
      simp [hc]
    · refine ev_neg hc (ev_now ?_)
      simp [hc]
theorem eqInt_ev (a b : List Int) (hl : a.length * 8 ≤ 140737488351232) : Ev (fun k => laws_eqIntS.f k a b) (decide (a = b)) := by
  unfold laws_eqIntS.f
  by_cases h : a.length = b.length
  · refine ev_pos (by omega) ?_
    exact eqInt_l a b hl a b [] [] rfl rfl rfl h
  · refine ev_neg (by omega) (ev_now ?_)
    symm
    exact decide_eq_false (fun e => h (by rw [e]))

/-! ### Is it an order? -/
theorem in_ev (a b c : Int) : Ev (fun _ => spec_l1In.f a b c) (decide (b ≤ a) && decide (a ≤ c)) := by
  unfold spec_l1In.f
  by_cases h : a ≥ b
  · refine ev_pos h (ev_now ?_)
    have : decide (b ≤ a) = true := decide_eq_true h
    rw [this]; rfl
  · refine ev_neg h (ev_now ?_)
    have : decide (b ≤ a) = false := decide_eq_false (by omega)
    rw [this]; rfl

theorem isSize_ev (n : Int) : Ev (fun _ => impl_isSize.f n) (decide (1 ≤ n) && decide (n ≤ 7)) := by
  unfold impl_isSize.f
  by_cases h : n ≥ 1
  · refine ev_pos h (ev_now ?_)
    have : decide (1 ≤ n) = true := decide_eq_true h
    rw [this]; rfl
  · refine ev_neg h (ev_now ?_)
    have : decide (1 ≤ n) = false := decide_eq_false (by omega)
    rw [this]; rfl

/-! ### factorials, the sorted order -/
theorem fact_tab : ∀ i : Fin 8, impl_factorial.f 20 ((i.val : Nat) : Int) = some ((fac i.val : Nat) : Int) := by decide +kernel
theorem fact_ev (n : Nat) (h : n ≤ 7) : Ev (fun k => impl_factorial.f k (n : Int)) ((fac n : Nat) : Int) := Ev.of (fun k => impl_factorial.mono _ k) (fact_tab ⟨n, by omega⟩)
theorem ways_tab : ∀ i : Fin 8, spec_l2Ways.f 20 ((i.val : Nat) : Int) = some ((fac i.val : Nat) : Int) := by decide +kernel
theorem ways_ev (n : Nat) (h : n ≤ 7) : Ev (fun k => spec_l2Ways.f k (n : Int)) ((fac n : Nat) : Int) := Ev.of (fun k => spec_l2Ways.mono _ k) (ways_tab ⟨n, by omega⟩)
theorem sorted_tab : ∀ i : Fin 8, impl_sorted.f 20 ((i.val : Nat) : Int) = some (iota 1 i.val) := by decide +kernel
theorem sorted_ev (n : Nat) (h : n ≤ 7) : Ev (fun k => impl_sorted.f k (n : Int)) (iota 1 n) := Ev.of (fun k => impl_sorted.mono _ k) (sorted_tab ⟨n, by omega⟩)
theorem delete_ev (l : List Int) (i : Nat) (h : i < l.length) (hl : l.length ≤ 7) : Ev (fun _ => slices_Delete_int_int.f l (i : Int) (wrap64 ((i : Int) + 1))) (l.eraseIdx i) := by
  unfold slices_Delete_int_int.f
  rw [wrap_of (by omega) (by omega)]
  refine ev_pos (by omega) (ev_pos (by omega) (ev_pos (by omega) (ev_now ?_)))
  rw [← take_drop_erase]
  simp

/-! ### laws.markIntS, laws.heldIntS -/
theorem mark_l : ∀ (suf pre : List Int) (x : Int), 0 ≤ x → x + suf.length ≤ 4611686018427387904 → pre.length + suf.length ≤ 4611686018427387904 → Ev (fun k => laws_markIntS.l0 k (pre ++ suf) x (pre.length : Int)) (x + suf.length, pre ++ iota x suf.length) := by
  intro suf
  induction suf with
  | nil =>
    intro pre x h0 h1 h2
    refine ev_succ ?_
    simp only [laws_markIntS.l0.eq_2]
    refine ev_neg (by simp) ?_
    exact ev_now (by simp [iota])
  | cons c suf ih =>
    intro pre x h0 h1 h2
    simp only [List.length_cons] at h1 h2
    refine ev_succ ?_
    simp only [laws_markIntS.l0.eq_2]
    refine ev_pos (by simp; omega) (ev_pos (by omega) ?_)
    have e2 : (pre ++ c :: suf).set ((pre.length : Int)).toNat x = (pre ++ [x]) ++ suf := by simp
    rw [wrap_snoc (pre := pre) (c := x) (by omega), e2, wrap_of (by omega) (by omega)]
    refine ev_eq (ih (pre ++ [x]) (x + 1) (by omega) (by omega) (by simp; omega)) ?_
    simp [iota]; omega
theorem mark_ev (l : List Int) (x : Int) (h0 : 0 ≤ x) (h1 : x + l.length ≤ 4611686018427387904) : Ev (fun k => laws_markIntS.f k l x) (x + l.length, iota x l.length) := by
  unfold laws_markIntS.f
  have := mark_l l [] x h0 h1 (by simp; omega)
  simpa using this
theorem held_l : ∀ (n : Nat) (pre : List Int) (x : Int), 0 ≤ x → x + n ≤ 4611686018427387904 → pre.length + n ≤ 4611686018427387904 → Ev (fun k => laws_heldIntS.l0 k (pre ++ iota x n) x (pre.length : Int)) (x + n) := by
  intro n
  induction n with
  | zero =>
    intro pre x h0 h1 h2
    refine ev_succ ?_
    simp only [laws_heldIntS.l0.eq_2]
    refine ev_neg (by simp [iota]) ?_
    exact ev_now (by simp)
  | succ n ih =>
    intro pre x h0 h1 h2
    refine ev_succ ?_
    simp only [laws_heldIntS.l0.eq_2, iota, rd_mid]
    refine ev_pos (by simp; omega) (ev_pos (by omega) (ev_pos trivial ?_))
    rw [wrap_snoc (pre := pre) (c := x) (by omega), wrap_of (by omega) (by omega), show pre ++ x :: iota (x + 1) n = (pre ++ [x]) ++ iota (x + 1) n by simp]
    refine ev_eq (ih (pre ++ [x]) (x + 1) (by omega) (by omega) (by simp; omega)) ?_
    omega
theorem held_ev (n : Nat) (x : Int) (h0 : 0 ≤ x) (h1 : x + n ≤ 4611686018427387904) : Ev (fun k => laws_heldIntS.f k (iota x n) x) (x + n) := by
  unfold laws_heldIntS.f
  have := held_l n [] x h0 h1 (by simp; omega)
  simpa using this

/-! ### OrderAt -/
theorem tdiv_nat (a b : Nat) : Int.tdiv (a : Int) (b : Int) = ((a / b : Nat) : Int) := (Int.ofNat_tdiv a b).symm
theorem tmod_nat (a b : Nat) : Int.tmod (a : Int) (b : Int) = ((a % b : Nat) : Int) := (Int.ofNat_tmod a b).symm
theorem rd_getD (l : List Int) (n : Nat) : rd l (n : Int) = l.getD n 0 := by unfold rd; simp
theorem own_ev (l : List Int) (h : l.length ≤ 1000000) : Ev (fun _ => spec_l1Own.f l) l := by
  unfold spec_l1Own.f
  exact ev_let (ev_pos (by simp; omega) (ev_now (by simp)))
theorem impl_at_l : ∀ (r : Nat) (left out : List Int) (k : Nat), left.length = r → r ≤ 7 → out.length + r ≤ 7 → k < fac r → Ev (fun n => impl_orderAt.l0 n (k : Int) left out) (out ++ atGo r left k) := by
  intro r
  induction r with
  | zero =>
    intro left out k hl h7 ho hk
    refine ev_succ ?_
    simp only [impl_orderAt.l0.eq_2]
    exact ev_neg (by omega) (ev_now (by simp [atGo]))
  | succ r ih =>
    intro left out k hl h7 ho hk
    have hp := fac_pos r
    have hf := fac_le (n := r) (by omega)
    have hq : k / fac r < r + 1 := by rw [fac] at hk; rw [Nat.div_lt_iff_lt_mul hp]; exact hk
    have hm : k % fac r < fac r := Nat.mod_lt _ hp
    obtain ⟨q, hqe⟩ : ∃ q, q = k / fac r := ⟨_, rfl⟩
    rw [← hqe] at hq
    refine ev_succ ?_
    simp only [impl_orderAt.l0.eq_2]
    rw [wrap_of (x := (left.length : Int) - 1) (by omega) (by omega), show (left.length : Int) - 1 = (r : Int) by omega]
    refine ev_pos (by omega) (ev_bind (fact_ev r (by omega)) ?_)
    rw [tdiv_nat, tmod_nat, ← hqe, wrap_of (x := ((q : Nat) : Int)) (by omega) (by omega)]
    refine ev_neg (by omega) (ev_pos (by omega) (ev_pos (by omega) (ev_pos (by omega) (ev_bind (delete_ev left q (by omega) (by omega)) ?_))))
    rw [rd_getD]
    refine ev_eq (ih _ _ _ (by rw [List.length_eraseIdx_of_lt (by omega)]; omega) (by omega) (by simp; omega) hm) ?_
    simp [atGo, hqe]
theorem spec_at_l : ∀ (r : Nat) (left out : List Int) (k : Nat), left.length = r → r ≤ 7 → out.length + r ≤ 7 → k < fac r → Ev (fun n => spec_l2At.l0 n (k : Int) out left) (out ++ atGo r left k) := by
  intro r
  induction r with
  | zero =>
    intro left out k hl h7 ho hk
    refine ev_succ ?_
    simp only [spec_l2At.l0.eq_2]
    exact ev_neg (by omega) (ev_now (by simp [atGo]))
  | succ r ih =>
    intro left out k hl h7 ho hk
    have hp := fac_pos r
    have hf := fac_le (n := r) (by omega)
    have hq : k / fac r < r + 1 := by rw [fac] at hk; rw [Nat.div_lt_iff_lt_mul hp]; exact hk
    have hm : k % fac r < fac r := Nat.mod_lt _ hp
    obtain ⟨q, hqe⟩ : ∃ q, q = k / fac r := ⟨_, rfl⟩
    rw [← hqe] at hq
    refine ev_succ ?_
    simp only [spec_l2At.l0.eq_2]
    rw [wrap_of (x := (left.length : Int) - 1) (by omega) (by omega), show (left.length : Int) - 1 = (r : Int) by omega]
    refine ev_pos (by omega) (ev_bind (ways_ev r (by omega)) ?_)
    rw [tdiv_nat, tmod_nat, ← hqe, wrap_of (x := ((q : Nat) : Int)) (by omega) (by omega), wrap_of (x := ((q : Nat) : Int) + 1) (by omega) (by omega)]
    refine ev_neg (by omega) (ev_pos (by omega) (ev_pos (by omega) (ev_pos (by omega) (ev_pos (by omega) (ev_bind (own_ev _ (by simp; omega)) (ev_pos (by omega) (ev_pos (by omega) (ev_let (ev_pos (by simp; omega) ?_)))))))))
    rw [rd_getD, show ((((q : Nat) : Int)).toNat) = q by omega, show (((((q : Nat) : Int)) + 1).toNat) = q + 1 by omega, take_drop_erase]
    refine ev_eq (ih _ _ _ (by rw [List.length_eraseIdx_of_lt (by omega)]; omega) (by omega) (by simp; omega) hm) ?_
    simp [atGo, hqe]
theorem spec_sorted_tab : ∀ i : Fin 8, spec_l2Sorted.f 20 ((i.val : Nat) : Int) = some (iota 1 i.val) := by decide +kernel
theorem spec_sorted_ev (n : Nat) (h : n ≤ 7) : Ev (fun k => spec_l2Sorted.f k (n : Int)) (iota 1 n) := Ev.of (fun k => spec_l2Sorted.mono _ k) (spec_sorted_tab ⟨n, by omega⟩)
theorem spec_orderat_ev (a b : Int) : Ev (fun k => spec_OrderAt.f k a b) (orderAtR a b) := by
  unfold spec_OrderAt.f orderAtR
  refine ev_bind (in_ev a 1 7) ?_
  by_cases h : 1 ≤ a ∧ a ≤ 7
  · obtain ⟨n, rfl⟩ : ∃ n : Nat, a = (n : Int) := ⟨a.toNat, by omega⟩
    have hf := fac_le (n := n) (by omega)
    have hp := fac_pos n
    refine ev_pos (by simp; omega) (ev_bind (ways_ev n (by omega)) ?_)
    rw [wrap_of (by omega) (by omega)]
    refine ev_bind (in_ev b 0 _) ?_
    by_cases h2 : 0 ≤ b ∧ b < (fac n : Int)
    · obtain ⟨k, rfl⟩ : ∃ k : Nat, b = (k : Int) := ⟨b.toNat, by omega⟩
      rw [if_pos ⟨h.1, h.2, h2.1, by simpa using h2.2⟩]
      refine ev_pos (by simp; omega) (ev_bind ?_ (ev_now rfl))
      unfold spec_l2At.f
      refine ev_bind (spec_sorted_ev n (by omega)) ?_
      exact spec_at_l n (iota 1 n) [] k (iota_length _ _) (by omega) (by simp; omega) (by omega)
    · rw [if_neg (fun hh => h2 ⟨hh.2.2.1, by simpa using hh.2.2.2⟩)]
      refine ev_neg ?_ (ev_now rfl)
      simp only [Bool.and_eq_true, decide_eq_true_eq]; omega
  · rw [if_neg (fun hh => h ⟨hh.1, hh.2.1⟩)]
    refine ev_neg ?_ (ev_now rfl)
    simp only [Bool.and_eq_true, decide_eq_true_eq]; omega
theorem impl_orderat_ev (a b : Int) : Ev (fun k => impl_OrderAt.f k a b) (orderAtR a b) := by
  unfold impl_OrderAt.f orderAtR
  refine ev_bind (isSize_ev a) ?_
  by_cases h : 1 ≤ a ∧ a ≤ 7
  · obtain ⟨n, rfl⟩ : ∃ n : Nat, a = (n : Int) := ⟨a.toNat, by omega⟩
    have hf := fac_le (n := n) (by omega)
    refine ev_pos (by simp; omega) ?_
    by_cases h3 : b < 0
    · rw [if_neg (fun hh => absurd hh.2.2.1 (by omega))]
      exact ev_pos h3 (ev_now rfl)
    refine ev_neg h3 (ev_bind (fact_ev n (by omega)) ?_)
    by_cases h2 : b < (fac n : Int)
    · obtain ⟨k, rfl⟩ : ∃ k : Nat, b = (k : Int) := ⟨b.toNat, by omega⟩
      rw [if_pos ⟨h.1, h.2, by omega, by simpa using h2⟩]
      refine ev_neg (by omega) (ev_bind ?_ (ev_now rfl))
      unfold impl_orderAt.f
      refine ev_bind (sorted_ev n (by omega)) ?_
      exact impl_at_l n (iota 1 n) [] k (iota_length _ _) (by omega) (by simp; omega) (by omega)
    · rw [if_neg (fun hh => h2 (by simpa using hh.2.2.2))]
      exact ev_pos (by omega) (ev_now rfl)
  · rw [if_neg (fun hh => h ⟨hh.1, hh.2.1⟩)]
    refine ev_neg ?_ (ev_now rfl)
    simp only [Bool.and_eq_true, decide_eq_true_eq]; omega
theorem orderAtR_length (a b : Int) : (orderAtR a b).1.length ≤ 7 := by
  unfold orderAtR; split
  · simp only [orderAtL, atGo_length]; omega
  · simp

theorem FnExactOrderAt : laws_FnExactOrderAt.Pure := by
  intro a b ha hb
  apply Ev.rounds (r := true)
  unfold laws_FnExactOrderAt.f
  have hs := spec_orderat_ev a b
  have hi := impl_orderat_ev a b
  have ho := orderAtR_length a b
  generalize orderAtR a b = R at hs hi ho
  obtain ⟨out, c⟩ := R
  simp only at ho
  refine ev_bind hs (ev_bind hi (ev_bind (eqInt_ev out out (by omega)) (ev_pos (by simp) ?_)))
  refine ev_succ ?_
  simp only [laws_FnExactOrderAt.j0.eq_2]
  refine ev_neg (by simp) (ev_bind (mark_ev out 1 (by omega) (by omega)) (ev_bind (held_ev _ 1 (by omega) (by omega)) (ev_neg (by omega) (ev_pos rfl (ev_bind hi (ev_bind (eqInt_ev out out (by omega)) (ev_pos (by simp) ?_)))))))
  refine ev_succ ?_
  simp only [laws_FnExactOrderAt.j1.eq_2]
  exact ev_neg (by simp) (ev_bind (held_ev _ 1 (by omega) (by omega)) (ev_neg (by omega) (ev_pos rfl (ev_now rfl))))
end Go.Proofs.Ytcocnmolojcoaaa.Pure
