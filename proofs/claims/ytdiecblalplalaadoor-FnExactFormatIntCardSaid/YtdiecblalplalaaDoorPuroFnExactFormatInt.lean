/- The pure statement of FnExactFormatInt: the reference writes every number as the library does. No condition. -/
import Derived.Test.YtdiecblalplalaaDoorMFnExactFormatIntx1
import Derived.Test.YtdiecblalplalaaDoorBase
namespace Go.Proofs.YtdiecblalplalaaDoor.Pure
open Go Go.RowKit Go.Proofs.YtdiecblalplalaaDoor.MFnExactFormatInt Go.Proofs.YtdiecblalplalaaDoorW.PrintWords Go.Proofs.YtdiecblalplalaaDoor.Base
set_option linter.unusedVariables false
set_option linter.unusedSimpArgs false
theorem dig_cut (d : Nat) (h : d ≤ 9) : (⟨#[48, 49, 50, 51, 52, 53, 54, 55, 56, 57]⟩ : ByteArray).extract d (d + 1) = ⟨#[UInt8.ofNat (48 + d)]⟩ := by
  have : d = 0 ∨ d = 1 ∨ d = 2 ∨ d = 3 ∨ d = 4 ∨ d = 5 ∨ d = 6 ∨ d = 7 ∨ d = 8 ∨ d = 9 := by omega
  rcases this with rfl | rfl | rfl | rfl | rfl | rfl | rfl | rfl | rfl | rfl <;> rfl
theorem decDigits_len : ∀ (n : Nat), (Lib.decDigits n).length ≤ n + 1 := by
  intro n
  induction n using Nat.strongRecOn with
  | _ n ih =>
    rw [Lib.decDigits]
    split
    · simp
    · have := ih (n / 10) (by omega)
      rw [List.length_append, List.length_singleton]; omega
theorem dec_small {n : Nat} (h : n < 10) : Lib.decDigits n = [UInt8.ofNat (48 + n)] := by rw [Lib.decDigits, dif_pos h]
theorem dec_big {n : Nat} (h : ¬ n < 10) : Lib.decDigits n = Lib.decDigits (n / 10) ++ [UInt8.ofNat (48 + n % 10)] := by rw [Lib.decDigits, dif_neg h]
theorem pos_ev : ∀ (n : Nat), n ≤ 999999 → Ev (fun k => spec_l1Num.f k (n : Int)) (⟨(Lib.decDigits n).toArray⟩ : ByteArray) := by
  intro n
  induction n using Nat.strongRecOn with
  | _ n ih =>
    intro h
    refine ev_succ ?_
    simp only [spec_l1Num.f]
    refine ev_neg (by omega) ?_
    by_cases h10 : n < 10
    · rw [wrap_of (x := (n : Int) + 1) (by omega) (by omega)]
      refine ev_pos (by omega) (ev_pos (by omega) (ev_pos (by omega) (ev_pos (by omega) (ev_now ?_))))
      rw [dec_small h10, show ((n : Int)).toNat = n by omega, show ((n : Int) + 1).toNat = n + 1 by omega, dig_cut n (by omega)]
    · have e1 : Int.tdiv (n : Int) 10 = ((n / 10 : Nat) : Int) := by rw [Int.tdiv_eq_ediv_of_nonneg (by omega)]; omega
      have e2 : Int.tmod (n : Int) 10 = ((n % 10 : Nat) : Int) := by rw [Int.tmod_eq_emod_of_nonneg (by omega)]; omega
      have hl := decDigits_len (n / 10)
      rw [e1, e2, wrap_of (x := ((n / 10 : Nat) : Int)) (by omega) (by omega), wrap_of (x := ((n % 10 : Nat) : Int) + 1) (by omega) (by omega)]
      rw [show (((n % 10 : Nat) : Int)).toNat = n % 10 by omega, show (((n % 10 : Nat) : Int) + 1).toNat = n % 10 + 1 by omega, dig_cut (n % 10) (by omega)]
      refine ev_neg (by omega) (ev_bind (ih (n / 10) (by omega) (by omega)) (ev_pos (by omega) (ev_pos (by omega) (ev_pos (by omega) (ev_pos ?_ (ev_now ?_))))))
      · simp [ByteArray.size]; omega
      · rw [dec_big h10]
        apply ByteArray.ext; simp [ByteArray.data_append]
theorem neg_ev : ∀ (n : Nat), 1 ≤ n → n ≤ 999999 → Ev (fun k => spec_l1Num.f k (-(n : Int))) (⟨(45 :: Lib.decDigits n).toArray⟩ : ByteArray) := by
  intro n
  induction n using Nat.strongRecOn with
  | _ n ih =>
    intro h0 h
    refine ev_succ ?_
    simp only [spec_l1Num.f]
    refine ev_pos (by omega) ?_
    have hl := decDigits_len n
    by_cases h10 : n < 10
    · rw [show (- -(n : Int)) = (n : Int) by omega, wrap_of (x := (n : Int)) (by omega) (by omega)]
      refine ev_pos (by omega) (ev_bind (pos_ev n h) (ev_pos ?_ (ev_now ?_)))
      · simp [ByteArray.size]; omega
      · skip
        apply ByteArray.ext; simp [ByteArray.data_append]
    · have e1 : Int.tdiv (-(n : Int)) 10 = -((n / 10 : Nat) : Int) := by rw [Int.neg_tdiv, Int.tdiv_eq_ediv_of_nonneg (by omega)]; omega
      have e2 : Int.tmod (-(n : Int)) 10 = -((n % 10 : Nat) : Int) := by rw [Int.neg_tmod, Int.tmod_eq_emod_of_nonneg (by omega)]; omega
      have hl2 := decDigits_len (n / 10)
      have hl3 := decDigits_len (n % 10)
      rw [e1, e2, show (- -((n % 10 : Nat) : Int)) = ((n % 10 : Nat) : Int) by omega, wrap_of (x := -((n / 10 : Nat) : Int)) (by omega) (by omega), wrap_of (x := ((n % 10 : Nat) : Int)) (by omega) (by omega)]
      refine ev_neg (by omega) (ev_bind (ih (n / 10) (by omega) (by omega) (by omega)) (ev_bind (pos_ev (n % 10) (by omega)) (ev_pos ?_ (ev_now ?_))))
      · simp [ByteArray.size]; omega
      · rw [dec_big h10, dec_small (n := n % 10) (by omega)]
        apply ByteArray.ext; simp [ByteArray.data_append]
theorem FnExactFormatInt (a : Int) : ∃ k, spec_FormatInt.f k a = some (fiR a) := by
  apply Ev.rounds (r := fiR a)
  unfold spec_FormatInt.f
  have hin : spec_l1In.f a (-999999) 999999 = some (decide (-999999 ≤ a ∧ a ≤ 999999)) := by
    unfold spec_l1In.f
    by_cases h : a ≥ -999999
    · rw [if_pos h]; congr 1; simp; omega
    · rw [if_neg h]; congr 1; simp; omega
  rw [hin]
  refine ev_bind (a := decide (-999999 ≤ a ∧ a ≤ 999999)) (ev_now rfl) ?_
  unfold fiR
  by_cases h : -999999 ≤ a ∧ a ≤ 999999
  · rw [if_pos h]
    refine ev_pos (decide_eq_true h) ?_
    by_cases h0 : a < 0
    · obtain ⟨n, rfl⟩ : ∃ n : Nat, a = -(n : Int) := ⟨a.natAbs, by omega⟩
      have hi : Lib.itoa (-(n : Int)) = 45 :: Lib.decDigits n := by unfold Lib.itoa; rw [if_pos h0]; congr 2; omega
      rw [hi]
      exact ev_bind (neg_ev n (by omega) (by omega)) (ev_now rfl)
    · obtain ⟨n, rfl⟩ : ∃ n : Nat, a = (n : Int) := ⟨a.toNat, by omega⟩
      have hi : Lib.itoa (n : Int) = Lib.decDigits n := by unfold Lib.itoa; rw [if_neg h0]; congr 1
      rw [hi]
      exact ev_bind (pos_ev n (by omega)) (ev_now rfl)
  · rw [if_neg h]
    exact ev_neg (by simpa using h) (ev_now rfl)
end Go.Proofs.YtdiecblalplalaaDoor.Pure
