/- The pure statement of FnExactWordAt: program and reference tell the same word for every number and rank. No condition. -/
import Derived.Test.YtmkgigagfhhgcaaMFnExactWordAtx2
import Derived.Test.YtmkgigagfhhgcaaBase
import Derived.Test.YtmkgigagfhhgcaaBaseC
namespace Go.Proofs.Ytmkgigagfhhgcaa.Pure
open Go.RowKit Go.Proofs.Ytmkgigagfhhgcaa.MFnExactWordAt Go.Proofs.YtmkgigagfhhgcaaW.PrintWords Go.Proofs.Ytmkgigagfhhgcaa.Base
set_option linter.unusedVariables false
set_option linter.unusedSimpArgs false
/-! ### Is it an order? -/
theorem in_ev (a b c : Int) : Ev (fun _ => spec_l1In.f a b c) (decide (b ≤ a) && decide (a ≤ c)) := by
  unfold spec_l1In.f
  by_cases h : a ≥ b
  · refine ev_pos h (ev_now ?_)
    have : decide (b ≤ a) = true := decide_eq_true h
    rw [this]; rfl
  · refine ev_neg h (ev_now ?_)
    have : decide (b ≤ a) = false := decide_eq_false (by omega)
    rw [this]; rfl

theorem isSize_ev (n : Int) : Ev (fun _ => impl_isSize.f n) (decide (1 ≤ n) && decide (n ≤ 7)) := by
  unfold impl_isSize.f
  by_cases h : n ≥ 1
  · refine ev_pos h (ev_now ?_)
    have : decide (1 ≤ n) = true := decide_eq_true h
    rw [this]; rfl
  · refine ev_neg h (ev_now ?_)
    have : decide (1 ≤ n) = false := decide_eq_false (by omega)
    rw [this]; rfl

/-! ### The reference's count of what goes on -/
theorem ends_tab : ∀ i : Fin 16, ∀ j : Fin 15, spec_l4Ends.f 300 ((i.val : Nat) : Int) ((j.val : Nat) : Int) = some ((endsT i.val j.val : Nat) : Int) := by decide +kernel
theorem ends_ev (i j : Nat) (hi : i ≤ 15) (hj : j ≤ 14) : Ev (fun k => spec_l4Ends.f k (i : Int) (j : Int)) ((endsT i j : Nat) : Int) :=
  Ev.of (fun k => spec_l4Ends.mono _ _ k) (ends_tab ⟨i, by omega⟩ ⟨j, by omega⟩)
/-- Behind 'I': b - a + 1 numbers on the stack, a + b - 1 signs left. -/
theorem endsT_in (a b : Nat) (hab : a ≤ b) (h : 0 < a + b) : endsT (b - a + 1) (a + b - 1) = if a > 0 then cw (a + b - 1) (a - 1) b else 0 := by
  unfold endsT
  by_cases ha : a > 0
  · rw [if_pos ⟨by omega, by omega⟩, if_pos ha]
    congr 1 <;> omega
  · rw [if_neg (fun h => by omega), if_neg ha]

/-! ### The program's count of what goes on -/
theorem cw_ev : ∀ (r a b : Nat), a + b = r → a ≤ b → r ≤ 14 → Ev (fun k => impl_countWords.f k (a : Int) (b : Int)) ((cw r a b : Nat) : Int) := by
  intro r
  induction r with
  | zero =>
    intro a b h1 h2 h3
    refine ev_succ ?_
    simp only [impl_countWords.f.eq_2]
    exact ev_pos (by omega) (ev_now (by simp [cw]))
  | succ r ih =>
    intro a b h1 h2 h3
    refine ev_succ ?_
    simp only [impl_countWords.f.eq_2]
    by_cases ha : a = 0
    · refine ev_pos (by omega) (ev_now ?_)
      subst ha
      have : b = r + 1 := by omega
      subst this
      rw [cw_zero]; rfl
    · refine ev_neg (by omega) ?_
      rw [wrap_of (x := (a : Int) - 1) (by omega) (by omega), wrap_of (x := (b : Int) - 1) (by omega) (by omega), show (a : Int) - 1 = ((a - 1 : Nat) : Int) by omega]
      refine ev_bind (ih (a - 1) b (by omega) (by omega) (by omega)) ?_
      have hb1 := cw_bound (r := r) (a := a - 1) (b := b) (by omega)
      have hb2 := cw_bound (r := r) (a := a) (b := b - 1) (by omega)
      by_cases hb : b > a
      · rw [show (b : Int) - 1 = ((b - 1 : Nat) : Int) by omega]
        refine ev_pos (by omega) (ev_bind (ih a (b - 1) (by omega) (by omega) (by omega)) (ev_now ?_))
        rw [wrap_of (by omega) (by omega)]
        simp only [cw]
        rw [if_pos (by omega), if_pos hb]; omega
      · refine ev_neg (by omega) (ev_now ?_)
        simp only [cw]
        rw [if_pos (by omega), if_neg hb]; rfl

/-! ### WordAt -/
theorem cw_succ (r a b : Nat) : cw (r + 1) a b = (if a > 0 then cw r (a - 1) b else 0) + (if b > a then cw r a (b - 1) else 0) := rfl
theorem spec_wordat_l (n : Nat) (hn : n ≤ 7) : ∀ (r a b k : Nat) (w : List Int), a + b = r → a ≤ b → w.length + r = 2 * n → k < cw r a b → Ev (fun q => spec_WordAt.l0 q (n : Int) (k : Int) (strOfNums w) ((b - a : Nat) : Int)) (strOfNums (w ++ wordAtGo r a b k), true) := by
  intro r
  induction r with
  | zero =>
    intro a b k w h1 h2 h3 hk
    refine ev_succ ?_
    simp only [spec_WordAt.l0.eq_2]
    rw [wrap_of (x := 2 * (n : Int)) (by omega) (by omega), str_size]
    exact ev_neg (by omega) (ev_now (by simp [wordAtGo]))
  | succ r ih =>
    intro a b k w h1 h2 h3 hk
    have hk0 := cw_bound (r := r + 1) (a := a) (b := b) (by omega)
    refine ev_succ ?_
    simp only [spec_WordAt.l0.eq_2]
    rw [wrap_of (x := 2 * (n : Int)) (by omega) (by omega), str_size, wrap_of (x := ((b - a : Nat) : Int) + 1) (by omega) (by omega), wrap_of (x := ((b - a : Nat) : Int) - 1) (by omega) (by omega), wrap_of (x := 2 * (n : Int) - (w.length : Int)) (by omega) (by omega), wrap_of (x := 2 * (n : Int) - (w.length : Int) - 1) (by omega) (by omega)]
    rw [show ((b - a : Nat) : Int) + 1 = ((b - a + 1 : Nat) : Int) by omega, show 2 * (n : Int) - (w.length : Int) - 1 = ((a + b - 1 : Nat) : Int) by omega]
    have he := ends_ev (b - a + 1) (a + b - 1) (by omega) (by omega)
    rw [endsT_in a b h2 (by omega), show a + b - 1 = r by omega] at he
    rw [show a + b - 1 = r by omega]
    refine ev_pos (by omega) (ev_bind he ?_)
    have hkb : k ≤ 16384 := by omega
    rw [cw_succ] at hk
    by_cases hI : k < (if a > 0 then cw r (a - 1) b else 0)
    · have ha : a > 0 := by
        by_cases ha : a > 0
        · exact ha
        · rw [if_neg ha] at hI; omega
      refine ev_pos (by omega) (ev_pos (by omega) ?_)
      rw [str_snocI, show b - a + 1 = b - (a - 1) by omega]
      rw [if_pos ha] at hI
      refine ev_eq (ih (a - 1) b k (w ++ [73]) (by omega) (by omega) (by simp; omega) hI) ?_
      simp [wordAtGo, hI, ha]
    · have hb : b > a := by
        by_cases hb : b > a
        · exact hb
        · rw [if_neg hb] at hk; omega
      rw [if_pos hb] at hk
      refine ev_neg (by omega) (ev_pos (by omega) ?_)
      rw [wrap_of (by omega) (by omega), str_snocO, show ((b - a : Nat) : Int) - 1 = ((b - 1 - a : Nat) : Int) by omega, show (k : Int) - ((if a > 0 then cw r (a - 1) b else 0 : Nat) : Int) = ((k - (if a > 0 then cw r (a - 1) b else 0) : Nat) : Int) by omega]
      refine ev_eq (ih a (b - 1) _ (w ++ [79]) (by omega) (by omega) (by simp; omega) (by omega)) ?_
      simp only [wordAtGo]; rw [if_neg hI]; simp
theorem spec_wordat_no (n k : Int) : Ev (fun j => spec_WordAt.j0 j n k true) ((⟨#[]⟩ : ByteArray), false) := by
  refine ev_succ ?_
  simp only [spec_WordAt.j0.eq_2]
  exact ev_pos trivial (ev_now rfl)
theorem spec_wordat_yes (n k : Int) (h : 1 ≤ n ∧ n ≤ 7 ∧ 0 ≤ k ∧ k < (cw (n.toNat + n.toNat) n.toNat n.toNat : Int)) : Ev (fun j => spec_WordAt.j0 j n k false) (strOfNums (wordAtGo (n.toNat + n.toNat) n.toNat n.toNat k.toNat), true) := by
  refine ev_succ ?_
  simp only [spec_WordAt.j0.eq_2]
  refine ev_neg (by simp) ?_
  rw [← str_nil]
  have := spec_wordat_l n.toNat (by omega) (n.toNat + n.toNat) n.toNat n.toNat k.toNat [] rfl (Nat.le_refl _) (by simp; omega) (by omega)
  rw [show ((n.toNat : Nat) : Int) = n by omega, show ((k.toNat : Nat) : Int) = k by omega, show ((n.toNat - n.toNat : Nat) : Int) = 0 by omega] at this
  simpa using this
theorem spec_wordat_ev (n k : Int) : Ev (fun q => spec_WordAt.f q n k) (wordAtR n k) := by
  unfold spec_WordAt.f wordAtR
  refine ev_bind (in_ev _ _ _) ?_
  by_cases h : 1 ≤ n ∧ n ≤ 7
  · refine ev_pos (by simp [h.1, h.2]) ?_
    rw [wrap_of (x := 2 * n) (by omega) (by omega)]
    have he := ends_ev 0 (2 * n.toNat) (by omega) (by omega)
    rw [show ((2 * n.toNat : Nat) : Int) = 2 * n by omega] at he
    have e0 : endsT 0 (2 * n.toNat) = cw (n.toNat + n.toNat) n.toNat n.toNat := by
      unfold endsT
      rw [if_pos ⟨by omega, by omega⟩]
      congr 1 <;> omega
    rw [e0] at he
    have hb := cw_bound (r := n.toNat + n.toNat) (a := n.toNat) (b := n.toNat) (by omega)
    refine ev_bind he (ev_bind (in_ev _ _ _) ?_)
    rw [wrap_of (by omega) (by omega)]
    by_cases hk' : 0 ≤ k ∧ k < (cw (n.toNat + n.toNat) n.toNat n.toNat : Int)
    · have e1 : (!(decide (0 ≤ k) && decide (k ≤ ((cw (n.toNat + n.toNat) n.toNat n.toNat : Nat) : Int) - 1))) = false := by simp; omega
      rw [e1, if_pos ⟨h.1, h.2, hk'.1, hk'.2⟩]
      exact spec_wordat_yes n k ⟨h.1, h.2, hk'.1, hk'.2⟩
    · have e1 : (!(decide (0 ≤ k) && decide (k ≤ ((cw (n.toNat + n.toNat) n.toNat n.toNat : Nat) : Int) - 1))) = true := by simp; omega
      rw [e1, if_neg (fun h' => hk' h'.2.2)]
      exact spec_wordat_no n k
  · refine ev_neg (by simp; omega) ?_
    rw [if_neg (fun h' => h ⟨h'.1, h'.2.1⟩)]
    exact spec_wordat_no n k
theorem impl_wordat_l : ∀ (r a b k : Nat) (w : List Int), a + b = r → a ≤ b → w.length + r ≤ 14 → k < cw r a b → Ev (fun q => impl_wordAt.l0 q (k : Int) (a : Int) (b : Int) w) (strOfNums (w ++ wordAtGo r a b k)) := by
  intro r
  induction r with
  | zero =>
    intro a b k w h1 h2 h3 hk
    refine ev_succ ?_
    simp only [impl_wordAt.l0.eq_2]
    rw [wrap_of (x := (a : Int) + b) (by omega) (by omega)]
    exact ev_neg (by omega) (ev_now (by simp [wordAtGo]))
  | succ r ih =>
    intro a b k w h1 h2 h3 hk
    have hk0 := cw_bound (r := r + 1) (a := a) (b := b) (by omega)
    refine ev_succ ?_
    simp only [impl_wordAt.l0.eq_2]
    rw [wrap_of (x := (a : Int) + b) (by omega) (by omega), wrap_of (x := (a : Int) - 1) (by omega) (by omega), wrap_of (x := (b : Int) - 1) (by omega) (by omega)]
    refine ev_pos (by omega) ?_
    have hkb : k ≤ 16384 := by omega
    rw [cw_succ] at hk
    by_cases ha : a > 0
    · have hc := cw_bound (r := r) (a := a - 1) (b := b) (by omega)
      rw [if_pos ha] at hk
      rw [show (a : Int) - 1 = ((a - 1 : Nat) : Int) by omega]
      refine ev_pos (by omega) (ev_bind (cw_ev r (a - 1) b (by omega) (by omega) (by omega)) ?_)
      by_cases hI : k < cw r (a - 1) b
      · refine ev_pos (by omega) (ev_pos (by omega) ?_)
        refine ev_eq (ih (a - 1) b k (w ++ [73]) (by omega) (by omega) (by simp; omega) hI) ?_
        simp [wordAtGo, hI, ha]
      · have hb : b > a := by
          by_cases hb : b > a
          · exact hb
          · rw [if_neg hb] at hk; omega
        rw [if_pos hb] at hk
        refine ev_neg (by omega) (ev_pos (by omega) ?_)
        rw [wrap_of (by omega) (by omega), show (b : Int) - 1 = ((b - 1 : Nat) : Int) by omega, show (k : Int) - ((cw r (a - 1) b : Nat) : Int) = ((k - cw r (a - 1) b : Nat) : Int) by omega]
        refine ev_eq (ih a (b - 1) _ (w ++ [79]) (by omega) (by omega) (by simp; omega) (by omega)) ?_
        simp only [wordAtGo]; rw [if_pos ha, if_neg hI]; simp
    · rw [if_neg ha, if_pos (by omega)] at hk
      refine ev_neg (by omega) (ev_neg (by omega) (ev_pos (by omega) ?_))
      rw [wrap_of (x := (k : Int)) (by omega) (by omega), show (b : Int) - 1 = ((b - 1 : Nat) : Int) by omega]
      refine ev_eq (ih a (b - 1) k (w ++ [79]) (by omega) (by omega) (by simp; omega) (by omega)) ?_
      simp [wordAtGo, ha]
theorem impl_wordat_ev (n k : Int) : Ev (fun q => impl_WordAt.f q n k) (wordAtR n k) := by
  unfold impl_WordAt.f wordAtR
  refine ev_bind (isSize_ev _) ?_
  by_cases h : 1 ≤ n ∧ n ≤ 7
  · refine ev_pos (by simp [h.1, h.2]) ?_
    by_cases h0 : k < 0
    · refine ev_pos h0 (ev_now ?_)
      rw [if_neg (fun h' => by omega)]
    refine ev_neg h0 ?_
    have he := cw_ev (n.toNat + n.toNat) n.toNat n.toNat rfl (Nat.le_refl _) (by omega)
    rw [show ((n.toNat : Nat) : Int) = n by omega] at he
    refine ev_bind he ?_
    by_cases h1 : k ≥ ((cw (n.toNat + n.toNat) n.toNat n.toNat : Nat) : Int)
    · refine ev_pos h1 (ev_now ?_)
      rw [if_neg (fun h' => by omega)]
    refine ev_neg h1 ?_
    rw [if_pos ⟨h.1, h.2, by omega, by omega⟩]
    refine ev_bind (a := strOfNums (wordAtGo (n.toNat + n.toNat) n.toNat n.toNat k.toNat)) ?_ (ev_now rfl)
    unfold impl_wordAt.f
    have := impl_wordat_l (n.toNat + n.toNat) n.toNat n.toNat k.toNat [] rfl (Nat.le_refl _) (by simp; omega) (by omega)
    rw [show ((n.toNat : Nat) : Int) = n by omega, show ((k.toNat : Nat) : Int) = k by omega] at this
    simpa using this
  · refine ev_neg (by simp; omega) (ev_now ?_)
    rw [if_neg (fun h' => h ⟨h'.1, h'.2.1⟩)]

theorem FnExactWordAt : laws_FnExactWordAt.Pure := by
  intro n k hn hk
  apply Ev.rounds (r := true)
  unfold laws_FnExactWordAt.f
  refine ev_bind (spec_wordat_ev n k) (ev_bind (impl_wordat_ev n k) ?_)
  exact ev_pos rfl (ev_neg (by simp) (ev_now rfl))
end Go.Proofs.Ytmkgigagfhhgcaa.Pure
