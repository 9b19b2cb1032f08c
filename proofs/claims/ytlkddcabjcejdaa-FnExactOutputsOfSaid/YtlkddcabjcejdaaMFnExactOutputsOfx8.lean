/- The functions that FnExactOutputsOf comes to, with a walk for each. Made by this session's own program (wip/tools/mk.py), in the form of the kit's print; walks named in NOTES.md were written by hand. -/
import Derived.Test.YtlkddcabjcejdaaMFnExactOutputsOfx0
import Derived.Test.YtlkddcabjcejdaaMFnExactOutputsOfx1
import Derived.Test.YtlkddcabjcejdaaMFnExactOutputsOfx4
import Derived.Test.YtlkddcabjcejdaaMFnExactOutputsOfx7
namespace Go.Proofs.Ytlkddcabjcejdaa.MFnExactOutputsOf
open Go.RowKit Go.Proofs.YtlkddcabjcejdaaW.PrintWords Go.Proofs.YtlkddcabjcejdaaW.PrintLast Go.Proofs.YtlkddcabjcejdaaW.PrintMore
attribute [local go_sem] max2_int min2_int max_two min_two max_three min_three max_four min_four   -- for this text's walks alone
set_option linter.unusedVariables false
set_option linter.unusedSimpArgs false

/-! ### impl_OutputsOf: function 28 -/
def impl_OutputsOf.f (k : Nat) (l0 : List Int) : Option ((List (List Int)) × Bool) := (impl_isOrder.f k l0).bind fun t312 => (if t312 = true then ((impl_outputs.f k l0).bind fun t313 => (some (t313, true))) else (some (([] : List (List Int)), false)))
theorem impl_OutputsOf.mono : ∀ a0 k, LeO (impl_OutputsOf.f k a0) (impl_OutputsOf.f (k + 1) a0) := by
  intro a0 k
  unfold impl_OutputsOf.f
  repeat' first
      | (with_reducible exact impl_isOrder.mono _ _)
      | (with_reducible exact impl_outputs.mono _ _)
      | (with_reducible exact LeO.refl _)
      | (with_reducible exact LeO.none _)
      | (with_reducible refine LeO.ite ?_ ?_)
      | (with_reducible refine LeO.bind ?_ (fun _ => ?_))
      | exact impl_isOrder.mono _ _
      | exact impl_outputs.mono _ _
      | exact LeO.none _
      | refine LeO.ite ?_ ?_
      | refine LeO.bind ?_ (fun _ => ?_)
set_option maxHeartbeats 8000000 in
set_option maxRecDepth 100000 in
theorem impl_OutputsOf.calls (k : Nat) (A0 : Option Addr) (c0 : Nat) (l0 : List Int) (r1 : List (List Int)) (r2 : Bool) (w : World) (hr0 : Kd.C (Kd.int .i64) w A0 l0.length l0) (hc0 : l0.length ≤ c0) (h : impl_OutputsOf.f k l0 = some (r1, r2)) :
    Calls Try.prog 28 #[.slice A0 l0.length c0] w fun e w' => ∃ v0_ : Value, e = .returned (.tuple #[v0_, .bool r2]) ∧ Kd.S (Kd.slice 3 (Kd.int .i64)) 22 w' w.heap.size (fun _ => True) v0_ r1 ∧ Below w.heap.size w w' := by
  have HR0 := Aside0.mk hr0
  have HC0 := Aside0.mk hc0
  clear hr0 hc0
  have HB := Aside0.mk (Below.refl w.heap.size w)
  have H : ((impl_isOrder.f k l0).bind fun t312 => (if t312 = true then ((impl_outputs.f k l0).bind fun t313 => (some (t313, true))) else (some (([] : List (List Int)), false)))) = some (r1, r2) := h
  clear h
  replace H := Option.bind_eq_some_iff.mp H
  obtain ⟨t312, A20, H⟩ := H
  replace H : (if t312 = true then ((impl_outputs.f k l0).bind fun t313 => (some (t313, true))) else (some (([] : List (List Int)), false))) = some (r1, r2) := H
  have A2 := Aside0.mk A20
  clear A20
  by_cases c3 : t312 = true
  · subst c3
    have H1 : ((impl_outputs.f k l0).bind fun t313 => (some (t313, true))) = some (r1, r2) := by rw [if_pos rfl] at H; exact H
    clear H
    have H := H1
    clear H1
    replace H := Option.bind_eq_some_iff.mp H
    obtain ⟨t313, A40, H⟩ := H
    replace H : (some (t313, true)) = some (r1, r2) := H
    have A4 := Aside0.mk A40
    clear A40
    simp only [Option.some.injEq, Prod.mk.injEq] at H
    obtain ⟨rfl, rfl⟩ := H
    go_enter Try.func28, Try.ntmps28
    go_wp2_with (first | ((with_reducible refine gate_callee (f := 146) rfl ?_); refine goesL_ (some 5) rfl rfl Try.func146 (by kernel_rfl) rfl #[.slice A0 l0.length c0] rfl (by (try simp only [List.map_toArray, List.map_cons, List.map_nil]); first | done | rfl | (simp only [List.length_drop, List.length_take]; rfl)) ?_; (with_reducible refine (impl_isOrder.calls k _ _ l0 true _ ?side1 ?side2 A2.out).mono ?_); (case side1 => repeat (first | exact HR0.out | (with_reducible refine Kd.C_alloc ?_ _) | (with_reducible refine Kd.C_drewN ?_ _) | (with_reducible refine Kd.C_drew ?_))); (case side2 => exact HC0.out); rintro e w' ⟨rfl, ⟨nd, rfl⟩⟩; refine ⟨_, rfl, ?_⟩) | ((with_reducible refine gate_callee (f := 153) rfl ?_); refine goesL_ (some 8) rfl rfl Try.func153 (by kernel_rfl) rfl #[.slice A0 l0.length c0] rfl (by (try simp only [List.map_toArray, List.map_cons, List.map_nil]); first | done | rfl | (simp only [List.length_drop, List.length_take]; rfl)) ?_; (with_reducible refine (impl_outputs.calls k _ _ l0 t313 _ ?side1 ?side2 A4.out).mono ?_); (case side1 => repeat (first | exact HR0.out | (with_reducible refine Kd.C_alloc ?_ _) | (with_reducible refine Kd.C_drewN ?_ _) | (with_reducible refine Kd.C_drew ?_))); (case side2 => exact HC0.out); rintro e w5 ⟨v314, rfl, ho0, hb⟩; refine ⟨_, rfl, ?_⟩; have n0_ := Aside0.mk (Kd.S_lower ho0 (below_size (by repeat (first | (with_reducible first | exact HB.out | apply below_alloc | apply pw_below_drewN | apply below_drew1) | exact HB.out)))); have n1_ := Aside0.mk (below_step (by repeat (first | (with_reducible first | exact HB.out | apply below_alloc | apply pw_below_drewN | apply below_drew1) | exact HB.out)) hb); clear HB; have HO315 := n0_; have HB := n1_; clear n0_ n1_; (try clear hb); (try clear hb2); (try clear hk); (try clear hi); (try clear ho0)))
    go_ret2
    exact ⟨_, by first | rfl | (simp [errW_none, errW_some] <;> rfl) | (simp [*, errW_none, errW_some] <;> rfl), by (with_reducible repeat (first | apply Kd.S_alloc | apply Kd.S_drewN | apply Kd.S_drew)); exact HO315.out, by repeat (first | (with_reducible first | exact HB.out | apply below_alloc | apply pw_below_drewN | apply below_drew1) | exact HB.out)⟩
  · replace c3 := Bool.eq_false_iff.mpr c3
    subst c3
    have H1 : (some (([] : List (List Int)), false)) = some (r1, r2) := by rw [if_neg (show ¬ (false = true) by decide)] at H; exact H
    clear H
    have H := H1
    clear H1
    simp only [Option.some.injEq, Prod.mk.injEq] at H
    obtain ⟨rfl, rfl⟩ := H
    go_enter Try.func28, Try.ntmps28
    go_wp2_with (first | ((with_reducible refine gate_callee (f := 146) rfl ?_); refine goesL_ (some 5) rfl rfl Try.func146 (by kernel_rfl) rfl #[.slice A0 l0.length c0] rfl (by (try simp only [List.map_toArray, List.map_cons, List.map_nil]); first | done | rfl | (simp only [List.length_drop, List.length_take]; rfl)) ?_; (with_reducible refine (impl_isOrder.calls k _ _ l0 false _ ?side1 ?side2 A2.out).mono ?_); (case side1 => repeat (first | exact HR0.out | (with_reducible refine Kd.C_alloc ?_ _) | (with_reducible refine Kd.C_drewN ?_ _) | (with_reducible refine Kd.C_drew ?_))); (case side2 => exact HC0.out); rintro e w' ⟨rfl, ⟨nd, rfl⟩⟩; refine ⟨_, rfl, ?_⟩))
    go_ret2
    exact ⟨_, by first | rfl | (simp [errW_none, errW_some] <;> rfl) | (simp [*, errW_none, errW_some] <;> rfl), by first | exact Kd.S_nil _ _ _ _ _ | exact Kd.N_nil _ _ _ _ _ | exact Kd.V_nil _ _ _ _ _ | exact Kd.Q_nil _ _ _ _ _ | exact Kd.R_nil _ _ _ _ _, by repeat (first | (with_reducible first | exact HB.out | apply below_alloc | apply pw_below_drewN | apply below_drew1) | exact HB.out)⟩

/-! ### shared: lawev -/
section
open Go.Proofs.Ytlkddcabjcejdaa.Base
/-! ### laws.toIntS, laws.eqIntS -/
theorem toInt_l (l : List Int) (hl : l.length * 8 ≤ 140737488351232) : ∀ (suf pre : List Int), l = pre ++ suf → Ev (fun k => laws_toIntS.l0 k l (pre ++ List.replicate suf.length 0) (pre.length : Int)) l := by
  intro suf
  induction suf with
  | nil =>
    intro pre e
    have h := len_end e
    refine ev_succ ?_
    simp only [laws_toIntS.l0.eq_2]
    refine ev_neg (by omega) ?_
    exact ev_now (by rw [e]; simp)
  | cons c suf ih =>
    intro pre e
    have h := len_mid e
    refine ev_succ ?_
    simp only [laws_toIntS.l0.eq_2, rd_mid' e]
    refine ev_pos (by omega) (ev_pos (by omega) (ev_pos (by simp; omega) ?_))
    rw [wrap_snoc (pre := pre) (c := c) (by omega)]
    have e2 : (pre ++ List.replicate (c :: suf).length 0).set ((pre.length : Int)).toNat c = (pre ++ [c]) ++ List.replicate suf.length 0 := by
      simp [List.replicate_succ]
    rw [e2]
    exact ih _ (snoc_mid e)
theorem toInt_ev (l : List Int) (hl : l.length * 8 ≤ 140737488351232) : Ev (fun k => laws_toIntS.f k l) l := by
  unfold laws_toIntS.f
  refine ev_pos (by omega) (ev_pos (by omega) ?_)
  have := toInt_l l hl l [] rfl
  simpa using this
theorem eqInt_l (a b : List Int) (hl : a.length * 8 ≤ 140737488351232) : ∀ (s t pre q : List Int), a = pre ++ s → b = q ++ t → pre.length = q.length → s.length = t.length → Ev (fun k => laws_eqIntS.l0 k a b (pre.length : Int)) (decide (s = t)) := by
  intro s
  induction s with
  | nil =>
    intro t pre q e e' h1 h2
    have h := len_end e
    obtain rfl : t = [] := by cases t with
      | nil => rfl
      | cons _ _ => simp at h2
    refine ev_succ ?_
    simp only [laws_eqIntS.l0.eq_2]
    refine ev_neg (by omega) ?_
    exact ev_now (by simp)
  | cons c s ih =>
    intro t pre q e e' h1 h2
    cases t with
    | nil => simp at h2
    | cons d t =>
    have h := len_mid e
    have h' := len_mid e'
    refine ev_succ ?_
    have r1 := rd_mid' e
    have r2 := rd_mid' e'
    rw [← h1] at r2
    simp only [laws_eqIntS.l0.eq_2, r1, r2]
    refine ev_pos (by omega) (ev_pos (by omega) (ev_pos (by omega) ?_))
    by_cases hc : c = d
    · refine ev_pos hc ?_
      rw [wrap_snoc (pre := pre) (c := c) (by omega)]
      refine ev_eq (ih t (pre ++ [c]) (q ++ [d]) (snoc_mid e) (snoc_mid e') (by simp [h1]) (by simpa using h2)) ?_
      simp [hc]
    · refine ev_neg hc (ev_now ?_)
      simp [hc]
theorem eqInt_ev (a b : List Int) (hl : a.length * 8 ≤ 140737488351232) : Ev (fun k => laws_eqIntS.f k a b) (decide (a = b)) := by
  unfold laws_eqIntS.f
  by_cases h : a.length = b.length
  · refine ev_pos (by omega) ?_
    exact eqInt_l a b hl a b [] [] rfl rfl rfl h
  · refine ev_neg (by omega) (ev_now ?_)
    symm
    exact decide_eq_false (fun e => h (by rw [e]))
/-! ### laws.markIntS, laws.heldIntS -/
theorem mark_l : ∀ (suf pre : List Int) (x : Int), 0 ≤ x → x + suf.length ≤ 4611686018427387904 → pre.length + suf.length ≤ 4611686018427387904 → Ev (fun k => laws_markIntS.l0 k (pre ++ suf) x (pre.length : Int)) (x + suf.length, pre ++ iota x suf.length) := by
  intro suf
  induction suf with
  | nil =>
    intro pre x h0 h1 h2
    refine ev_succ ?_
    simp only [laws_markIntS.l0.eq_2]
    refine ev_neg (by simp) ?_
    exact ev_now (by simp [iota])
  | cons c suf ih =>
    intro pre x h0 h1 h2
    simp only [List.length_cons] at h1 h2
    refine ev_succ ?_
    simp only [laws_markIntS.l0.eq_2]
    refine ev_pos (by simp; omega) (ev_pos (by omega) ?_)
    have e2 : (pre ++ c :: suf).set ((pre.length : Int)).toNat x = (pre ++ [x]) ++ suf := by simp
    rw [wrap_snoc (pre := pre) (c := x) (by omega), e2, wrap_of (by omega) (by omega)]
    refine ev_eq (ih (pre ++ [x]) (x + 1) (by omega) (by omega) (by simp; omega)) ?_
    simp [iota]; omega
theorem mark_ev (l : List Int) (x : Int) (h0 : 0 ≤ x) (h1 : x + l.length ≤ 4611686018427387904) : Ev (fun k => laws_markIntS.f k l x) (x + l.length, iota x l.length) := by
  unfold laws_markIntS.f
  have := mark_l l [] x h0 h1 (by simp; omega)
  simpa using this
theorem held_l : ∀ (n : Nat) (pre : List Int) (x : Int), 0 ≤ x → x + n ≤ 4611686018427387904 → pre.length + n ≤ 4611686018427387904 → Ev (fun k => laws_heldIntS.l0 k (pre ++ iota x n) x (pre.length : Int)) (x + n) := by
  intro n
  induction n with
  | zero =>
    intro pre x h0 h1 h2
    refine ev_succ ?_
    simp only [laws_heldIntS.l0.eq_2]
    refine ev_neg (by simp [iota]) ?_
    exact ev_now (by simp)
  | succ n ih =>
    intro pre x h0 h1 h2
    refine ev_succ ?_
    simp only [laws_heldIntS.l0.eq_2, iota, rd_mid]
    refine ev_pos (by simp; omega) (ev_pos (by omega) (ev_pos trivial ?_))
    rw [wrap_snoc (pre := pre) (c := x) (by omega), wrap_of (by omega) (by omega), show pre ++ x :: iota (x + 1) n = (pre ++ [x]) ++ iota (x + 1) n by simp]
    refine ev_eq (ih (pre ++ [x]) (x + 1) (by omega) (by omega) (by simp; omega)) ?_
    omega
theorem held_ev (n : Nat) (x : Int) (h0 : 0 ≤ x) (h1 : x + n ≤ 4611686018427387904) : Ev (fun k => laws_heldIntS.f k (iota x n) x) (x + n) := by
  unfold laws_heldIntS.f
  have := held_l n [] x h0 h1 (by simp; omega)
  simpa using this
theorem rdL_mid {rows pre suf : List (List Int)} {c : List Int} (h : rows = pre ++ c :: suf) : rd_L1 rows (pre.length : Int) = c := by rw [h]; simp [rd_L1]
theorem eqIntSS_l (rows : List (List Int)) (hl : rows.length ≤ 1048576) (hr : ∀ xs ∈ rows, xs.length * 8 ≤ 140737488351232) : ∀ (suf pre : List (List Int)), rows = pre ++ suf → Ev (fun k => laws_eqIntSS.l0 k rows rows (pre.length : Int)) true := by
  intro suf
  induction suf with
  | nil =>
    intro pre e
    have h := len_end e
    refine ev_succ ?_
    simp only [laws_eqIntSS.l0.eq_2]
    exact ev_neg (by omega) (ev_now rfl)
  | cons c suf ih =>
    intro pre e
    have h := len_mid e
    refine ev_succ ?_
    simp only [laws_eqIntSS.l0.eq_2, rdL_mid e]
    rw [wrap_snoc (pre := pre) (c := c) (by omega)]
    exact ev_pos (by omega) (ev_pos (by omega) (ev_pos (by omega) (ev_bind (eqInt_ev c c (hr c (by rw [e]; simp))) (ev_pos (by simp) (ih _ (snoc_mid e))))))
theorem eqIntSS_ev (rows : List (List Int)) (hl : rows.length ≤ 1048576) (hr : ∀ xs ∈ rows, xs.length * 8 ≤ 140737488351232) : Ev (fun k => laws_eqIntSS.f k rows rows) true := by
  unfold laws_eqIntSS.f
  exact ev_pos rfl (eqIntSS_l rows hl hr rows [] rfl)
def sumLen : List (List Int) → Nat
  | [] => 0
  | c :: s => c.length + sumLen s
def markRows : List (List Int) → Int → List (List Int)
  | [], _ => []
  | c :: s, a => iota a c.length :: markRows s (a + (c.length : Int))
theorem markRows_len : ∀ (s : List (List Int)) (a : Int), (markRows s a).length = s.length := by
  intro s
  induction s with
  | nil => intro a; rfl
  | cons c s ih => intro a; simp [markRows, ih]
theorem sumLen_le : ∀ (s : List (List Int)), (∀ xs ∈ s, xs.length ≤ 1048576) → sumLen s ≤ s.length * 1048576 := by
  intro s
  induction s with
  | nil => intro _; simp [sumLen]
  | cons c s ih =>
    intro h
    have h1 := h c (by simp)
    have h2 := ih (fun x hx => h x (by simp [hx]))
    simp only [sumLen, List.length_cons]; omega
theorem markSS_l : ∀ (s acc : List (List Int)) (a : Int), 0 ≤ a → a + sumLen s ≤ 4611686018427387904 → Ev (fun k => laws_markIntSS.go k s acc a) (a + (sumLen s : Int), acc ++ markRows s a) := by
  intro s
  induction s with
  | nil => intro acc a _ _; exact ev_now (by simp [sumLen, markRows])
  | cons c s ih =>
    intro acc a h0 h1
    simp only [sumLen] at h1
    refine ev_bind (mark_ev c a h0 (by omega)) (ev_eq (ih _ _ (by omega) (by omega)) ?_)
    simp [sumLen, markRows]; omega
theorem markSS_ev (s : List (List Int)) (h : sumLen s ≤ 4611686018427387000) : Ev (fun k => laws_markIntSS.f k s 1) (1 + (sumLen s : Int), markRows s 1) := by
  unfold laws_markIntSS.f
  have := markSS_l s [] 1 (by omega) (by omega)
  simpa using this
end

/-! ### shared: lawev2 -/
section
open Go.Proofs.Ytlkddcabjcejdaa.Base
theorem heldSS_l (rows : List (List Int)) (hl : rows.length ≤ 1048576) : ∀ (s : List (List Int)) (pre : List (List Int)) (a : Int), rows = pre ++ markRows s a → 0 ≤ a → a + sumLen s ≤ 4611686018427387904 → Ev (fun k => laws_heldIntSS.l0 k rows a (pre.length : Int)) (a + (sumLen s : Int)) := by
  intro s
  induction s with
  | nil =>
    intro pre a e _ _
    have h := len_end e
    refine ev_succ ?_
    simp only [laws_heldIntSS.l0.eq_2]
    exact ev_neg (by omega) (ev_now (by simp [sumLen]))
  | cons c s ih =>
    intro pre a e h0 h1
    simp only [sumLen] at h1
    simp only [markRows] at e
    have h := len_mid e
    refine ev_succ ?_
    simp only [laws_heldIntSS.l0.eq_2, rdL_mid e]
    rw [wrap_snoc (pre := pre) (c := iota a c.length) (by omega)]
    refine ev_pos (by omega) (ev_pos (by omega) (ev_bind (held_ev c.length a h0 (by omega)) (ev_neg (by omega) (ev_eq (ih _ _ (snoc_mid e) (by omega) (by omega)) ?_))))
    simp [sumLen]; omega
theorem heldSS_ev (s : List (List Int)) (hl : s.length ≤ 1048576) (h : sumLen s ≤ 4611686018427387000) : Ev (fun k => laws_heldIntSS.f k (markRows s 1) 1) (1 + (sumLen s : Int)) := by
  unfold laws_heldIntSS.f
  exact heldSS_l (markRows s 1) (by rw [markRows_len]; exact hl) s [] 1 rfl (by omega) (by omega)
end

/-! ### laws_FnExactOutputsOf: function 6 -/
section
open Go.Proofs.Ytlkddcabjcejdaa.Base
def laws_FnExactOutputsOf.f (k : Nat) (l0 : List Int) : Option Bool := if (l0.length : Int) > 1048576 then some true else (spec_OutputsOf.f k l0).bind fun p => (impl_OutputsOf.f k l0).bind fun q => if p = q ∧ p.1.length ≤ 1048576 ∧ p.1.all (fun xs => decide (xs.length ≤ 1048576)) = true then some true else none
set_option maxHeartbeats 8000000 in
set_option maxRecDepth 100000 in
theorem laws_FnExactOutputsOf.calls (k : Nat) (A0 : Option Addr) (c0 : Nat) (l0 : List Int) (w : World) (hr0 : Kd.C (Kd.int .i64) w A0 l0.length l0) (hc0 : l0.length ≤ c0) (hl8 : l0.length * 8 ≤ 140737488351232) (h : laws_FnExactOutputsOf.f k l0 = some true) :
    Calls Try.prog 6 #[.slice A0 l0.length c0] w fun e w' => e = .returned (.bool true) ∧ Below w.heap.size w w' := by
  unfold laws_FnExactOutputsOf.f at h
  by_cases h1 : (l0.length : Int) > 1048576
  · have h1b : decide ((l0.length : Int) > 1048576) = true := decide_eq_true h1
    clear h
    go_enter Try.func6, Try.ntmps6
    go_wp2
    go_ret
    exact ⟨rfl, Below.refl _ _⟩
  · rw [if_neg h1] at h
    have h1b : decide ((l0.length : Int) > 1048576) = false := decide_eq_false h1
    obtain ⟨p, hp, h⟩ := Option.bind_eq_some_iff.1 h
    obtain ⟨q, hq, h⟩ := Option.bind_eq_some_iff.1 h
    by_cases hpq : p = q ∧ p.1.length ≤ 1048576 ∧ p.1.all (fun xs => decide (xs.length ≤ 1048576)) = true
    · obtain ⟨rfl, hrl, hrx⟩ := hpq
      obtain ⟨rows, b⟩ := p
      simp only at hrl hrx
      have hrx' : ∀ xs ∈ rows, xs.length ≤ 1048576 := fun xs hx => of_decide_eq_true (List.all_eq_true.1 hrx xs hx)
      have hsum := sumLen_le rows hrx'
      obtain ⟨kt, ht⟩ := toInt_ev l0 hl8
      obtain ⟨ke, he⟩ := eqInt_ev l0 l0 hl8
      obtain ⟨km, hm⟩ := mark_ev l0 1 (by omega) (by omega)
      obtain ⟨ks, hs⟩ := eqIntSS_ev rows hrl (fun xs hx => by have := hrx' xs hx; omega)
      obtain ⟨kM, hM⟩ := markSS_ev rows (by omega)
      obtain ⟨kH, hH⟩ := heldSS_ev rows hrl (by omega)
      have HT := Aside0.mk (ht kt (Nat.le_refl _))
      have HE := Aside0.mk (by have := he ke (Nat.le_refl _); rwa [decide_eq_true rfl] at this)
      have HM := Aside0.mk (hm km (Nat.le_refl _))
      have HS := Aside0.mk (hs ks (Nat.le_refl _))
      have HMS := Aside0.mk (hM kM (Nat.le_refl _))
      have HHS := Aside0.mk (hH kH (Nat.le_refl _))
      have HSP := Aside0.mk hp
      have HIM := Aside0.mk hq
      have HR0 := Aside0.mk hr0
      obtain ⟨S, hSS⟩ : ∃ S, sumLen rows = S := ⟨_, rfl⟩
      rw [hSS] at HMS HHS hsum
      have hS1 : ¬ (1 + (S : Int) < 0) := by omega
      have hS2 : ((1 + (S : Int)) != (1 + (S : Int))) = false := by simp
      have hl1 : ¬ (1 + (l0.length : Int) < 0) := by omega
      obtain ⟨rows', hrows'⟩ : ∃ rows', markRows rows 1 = rows' := ⟨_, rfl⟩
      rw [hrows'] at HMS HHS
      obtain ⟨l0', hl0'⟩ : ∃ l', iota 1 l0.length = l' := ⟨_, rfl⟩
      rw [hl0'] at HM
      clear h hp hq hrx hrx' ht he hm hs hM hH hr0 hSS hrows' hl0' hsum
      go_enter Try.func6, Try.ntmps6
      go_wp2_with (fail)
      refine (laws_toIntS.calls kt A0 c0 l0 l0 _ HR0.out hc0 HT.out).mono ?_
      rintro e_ w1 ⟨v1, rfl, hv1, hb1⟩
      obtain ⟨A1, c1, e1⟩ := Kd.R_slice hv1
      subst e1
      have HV1 := Aside0.mk hv1
      have HB := Aside0.mk hb1
      clear hv1 hb1
      go_wp2_with (fail)
      refine (spec_OutputsOf.calls k A1 c1 l0 rows b _ (Kd.R_reads' HV1.out).2.2 (Kd.R_reads' HV1.out).2.1 HSP.out).mono ?_
      rintro e_ w2 ⟨v2, rfl, hv2, hb2⟩
      obtain ⟨A2, c2, e2⟩ := (by first | exact Kd.N_slice hv2 | exact Kd.S_slice hv2 | exact Kd.R_slice hv2)
      subst e2
      have HC2 : Aside0 (Kd.C (Kd.slice 3 (Kd.int .i64)) w2 A2 rows.length rows) := ⟨(by first | exact (Kd.N_reads' hv2).2.2 | exact (Kd.S_reads' hv2).2.2 | exact (Kd.R_reads' hv2).2.2)⟩
      have HL2 : Aside0 (rows.length ≤ c2) := ⟨(by first | exact (Kd.N_reads' hv2).2.1 | exact (Kd.S_reads' hv2).2.1 | exact (Kd.R_reads' hv2).2.1)⟩
      replace HB := Aside0.mk (below_step HB.out hb2)
      have HW2 := HB
      clear HV1 hv2 hb2
      go_wp2_with (fail)
      refine (laws_toIntS.calls kt A0 c0 l0 l0 _ (Kd.C_below HR0.out HB.out) hc0 HT.out).mono ?_
      rintro e_ w3 ⟨v3, rfl, hv3, hb3⟩
      obtain ⟨A3, c3, e3⟩ := Kd.R_slice hv3
      subst e3
      have HV3 := Aside0.mk (Kd.R_mono (Kd.R_bound hv3) (fun k_ hk => hk.2.2.1))
      replace HB := Aside0.mk (below_step HB.out hb3)
      have HB2 := Aside0.mk hb3
      clear hv3 hb3
      go_wp2_with (fail)
      refine (impl_OutputsOf.calls k A3 c3 l0 rows b _ (Kd.R_reads' HV3.out).2.2 (Kd.R_reads' HV3.out).2.1 HIM.out).mono ?_
      rintro e_ w4 ⟨v4, rfl, hv4, hb4⟩
      obtain ⟨A4, c4, e4⟩ := Kd.S_slice hv4
      subst e4
      have HV4 := Aside0.mk (Kd.S_lower (Kd.S_mono (Kd.S_bound hv4) (fun k_ hk => hk.2.1)) HB2.out.size)
      replace HV3 := Aside0.mk (Kd.R_below HV3.out hb4)
      replace HB := Aside0.mk (below_step HB.out hb4)
      have HB3 := Aside0.mk hb4
      replace HB2 := Aside0.mk (below_step HB2.out hb4)
      clear hv4 hb4
      go_wp2_with (fail)
      refine (laws_eqIntSS.calls ks A4 c4 rows A2 c2 rows true _ (Kd.S_reads' HV4.out).2.2 (Kd.S_reads' HV4.out).2.1 (Kd.C_below HC2.out HB2.out) HL2.out HS.out).mono ?_
      rintro e_ w5 ⟨rfl, ⟨n5, rfl⟩⟩
      have HV3 := Aside0.mk (Kd.R_drewN HV3.out n5)
      have HV4 := Aside0.mk (Kd.S_drewN HV4.out n5)
      replace HB := Aside0.mk (pw_below_drewN HB.out n5)
      replace HB2 := Aside0.mk (pw_below_drewN HB2.out n5)
      replace HB3 := Aside0.mk (pw_below_drewN HB3.out n5)
      generalize w4.drewN n5 = w5 at HV3 HV4 HB HB2 HB3 ⊢
      go_wp2_with (fail)
      refine (laws_toIntS.calls kt A0 c0 l0 l0 _ (Kd.C_below HR0.out HB.out) hc0 HT.out).mono ?_
      rintro e_ w6 ⟨v6, rfl, hv6, hb6⟩
      obtain ⟨A6, c6, e6⟩ := Kd.R_slice hv6
      subst e6
      have HV6 := Aside0.mk hv6
      replace HV3 := Aside0.mk (Kd.R_below HV3.out hb6)
      replace HV4 := Aside0.mk (Kd.S_below HV4.out hb6)
      replace HB := Aside0.mk (below_step HB.out hb6)
      replace HB2 := Aside0.mk (below_step HB2.out hb6)
      replace HB3 := Aside0.mk (below_step HB3.out hb6)
      clear hv6 hb6
      go_wp2_with (fail)
      refine (laws_eqIntS.calls ke A3 c3 l0 A6 c6 l0 true _ (Kd.R_reads' HV3.out).2.2 (Kd.R_reads' HV3.out).2.1 (Kd.R_reads' HV6.out).2.2 (Kd.R_reads' HV6.out).2.1 HE.out).mono ?_
      rintro e_ w7 ⟨rfl, ⟨n7, rfl⟩⟩
      have HV3 := Aside0.mk (Kd.R_drewN HV3.out n7)
      have HV4 := Aside0.mk (Kd.S_drewN HV4.out n7)
      replace HB := Aside0.mk (pw_below_drewN HB.out n7)
      replace HB2 := Aside0.mk (pw_below_drewN HB2.out n7)
      replace HB3 := Aside0.mk (pw_below_drewN HB3.out n7)
      clear HV6
      generalize w6.drewN n7 = w7 at HV3 HV4 HB HB2 HB3 ⊢
      go_wp2_with (fail)
      refine (laws_markIntS.calls km (fun k_ => k_ < w3.heap.size) (.slice A3 l0.length c3) l0 1 (1 + (l0.length : Int)) l0' w2 _ HB2.out HV3.out HM.out).mono ?_
      rintro e_ w8 ⟨rfl, hr8, hb8, hk8⟩
      replace HV4 := Aside0.mk (Kd.S_kept HV4.out hk8 (fun k_ h_ h2_ => by omega))
      replace HB := Aside0.mk (below_step HW2.out hb8)
      replace HB2 := Aside0.mk hb8
      clear hr8 hb8 hk8 HV3 HB3
      go_wp2_with (fail)
      refine (laws_eqIntSS.calls ks A4 c4 rows A2 c2 rows true _ (Kd.S_reads' HV4.out).2.2 (Kd.S_reads' HV4.out).2.1 (Kd.C_below HC2.out HB2.out) HL2.out HS.out).mono ?_
      rintro e_ w9 ⟨rfl, ⟨n9, rfl⟩⟩
      have HV4 := Aside0.mk (Kd.S_drewN HV4.out n9)
      replace HB := Aside0.mk (pw_below_drewN HB.out n9)
      replace HB2 := Aside0.mk (pw_below_drewN HB2.out n9)
      generalize w8.drewN n9 = w9 at HV4 HB HB2 ⊢
      go_wp2_with (fail)
      refine (laws_markIntSS.calls kM (fun k_ => w3.heap.size ≤ k_) (.slice A4 rows.length c4) rows 1 (1 + (S : Int)) rows' w2 _ HB2.out HV4.out HMS.out).mono ?_
      rintro e_ w10 ⟨rfl, hs10, hb10, hk10⟩
      have HN := Aside0.mk (Kd.S_reads' hs10).1
      have HV5 := Aside0.mk hs10
      replace HB := Aside0.mk (below_step HW2.out hb10)
      replace HB2 := Aside0.mk hb10
      clear hs10 hb10 hk10 HV4
      rw [HN.out] at HV5 ⊢
      go_wp2_with (fail)
      refine (laws_heldIntSS.calls kH A4 c4 rows' 1 (1 + (S : Int)) _ (Kd.S_reads' HV5.out).2.2 (Kd.S_reads' HV5.out).2.1 HHS.out).mono ?_
      rintro e_ w11 ⟨rfl, ⟨n11, rfl⟩⟩
      have HV5 := Aside0.mk (Kd.S_drewN HV5.out n11)
      replace HB := Aside0.mk (pw_below_drewN HB.out n11)
      replace HB2 := Aside0.mk (pw_below_drewN HB2.out n11)
      generalize w10.drewN n11 = w11 at HV5 HB HB2 ⊢
      go_wp2_with (fail)
      refine (laws_toIntS.calls kt A0 c0 l0 l0 _ (Kd.C_below HR0.out HB.out) hc0 HT.out).mono ?_
      rintro e_ w12 ⟨v12, rfl, hv12, hb12⟩
      obtain ⟨A12, c12, e12⟩ := Kd.R_slice hv12
      subst e12
      have HV12 := Aside0.mk hv12
      replace HV5 := Aside0.mk (Kd.S_below HV5.out hb12)
      replace HB := Aside0.mk (below_step HB.out hb12)
      replace HB2 := Aside0.mk (below_step HB2.out hb12)
      clear hv12 hb12
      go_wp2_with (fail)
      refine (impl_OutputsOf.calls k A12 c12 l0 rows b _ (Kd.R_reads' HV12.out).2.2 (Kd.R_reads' HV12.out).2.1 HIM.out).mono ?_
      rintro e_ w13 ⟨v13, rfl, hv13, hb13⟩
      obtain ⟨A13, c13, e13⟩ := Kd.S_slice hv13
      subst e13
      have HV13 := Aside0.mk hv13
      replace HV5 := Aside0.mk (Kd.S_below HV5.out hb13)
      replace HB := Aside0.mk (below_step HB.out hb13)
      replace HB2 := Aside0.mk (below_step HB2.out hb13)
      clear hv13 hb13 HV12
      go_wp2_with (fail)
      rw [← HN.out]
      refine (laws_eqIntSS.calls ks A13 c13 rows A2 c2 rows true _ (Kd.S_reads' HV13.out).2.2 (Kd.S_reads' HV13.out).2.1 (Kd.C_below HC2.out HB2.out) HL2.out HS.out).mono ?_
      rintro e_ w14 ⟨rfl, ⟨n14, rfl⟩⟩
      have HV5 := Aside0.mk (Kd.S_drewN HV5.out n14)
      replace HB := Aside0.mk (pw_below_drewN HB.out n14)
      clear HB2 HV13 HC2
      generalize w13.drewN n14 = w14 at HV5 HB ⊢
      go_wp2_with (fail)
      rw [HN.out]
      refine (laws_heldIntSS.calls kH A4 c4 rows' 1 (1 + (S : Int)) _ (Kd.S_reads' HV5.out).2.2 (Kd.S_reads' HV5.out).2.1 HHS.out).mono ?_
      rintro e_ w15 ⟨rfl, ⟨n15, rfl⟩⟩
      replace HB := Aside0.mk (pw_below_drewN HB.out n15)
      clear HV5
      go_wp2_with (fail)
      go_ret
      exact ⟨rfl, HB.out⟩
    · rw [if_neg hpq] at h; cases h
/-- THE ONE PURE STATEMENT of laws_FnExactOutputsOf. -/
def laws_FnExactOutputsOf.Pure : Prop := ∀ (l0 : List Int), l0.length ≤ maxLen → l0.length * 8 ≤ 140737488351232 → (∀ x ∈ l0, (Lit.int .i64 x).wf = true) → ∃ k, laws_FnExactOutputsOf.f k l0 = some true
theorem laws_FnExactOutputsOf.walk (P : laws_FnExactOutputsOf.Pure) (a0 : Option Addr) (len0 cap0 : Nat) (z0 : List Int) (w : World) (w0 : (a0 = none ∧ len0 = 0 ∧ cap0 = 0 ∧ z0 = []) ∨ ∃ x, a0 = some x ∧ len0 ≤ cap0 ∧ cap0 ≤ maxLen ∧ z0.length = cap0 ∧ (∀ i, i < z0.length → w.cell? (x.add i) = some (.int .i64 (z0.getD i 0))) ∧ ∀ n ∈ z0, (Lit.int .i64 n).wf = true) (y0 : len0 * 8 ≤ 140737488351232) :
    Calls Try.prog 6 #[.slice a0 len0 cap0] w fun e w' => e = .returned (.bool true) ∧ Below w.heap.size w w' := by
  obtain ⟨l0, rfl, hr0, hm0, hw0, hc0⟩ := ReadsInt.ofRowC w0
  obtain ⟨k, h⟩ := P l0 hm0 y0 hw0
  refine (laws_FnExactOutputsOf.calls k _ _ l0 w (Kd.C_of_reads (d := (0 : Int)) (h1 := fun _ => rfl) hr0) hc0 y0 h).mono ?_
  rintro e w' ⟨rfl, hd⟩
  exact ⟨rfl, hd⟩
end

end Go.Proofs.Ytlkddcabjcejdaa.MFnExactOutputsOf
