/- The pure statement of FnExactParseInt: the reference reads the same number of every string. No condition. -/
import Derived.Test.YtjaplmgbhmgpiaaDoorMFnExactParseIntx1
import Derived.Test.YtjaplmgbhmgpiaaDoorBase
namespace Go.Proofs.YtjaplmgbhmgpiaaDoor.Pure
open Go Go.RowKit Go.Proofs.YtjaplmgbhmgpiaaDoor.MFnExactParseInt Go.Proofs.YtjaplmgbhmgpiaaDoorW.PrintWords Go.Proofs.YtjaplmgbhmgpiaaDoor.Base
set_option linter.unusedVariables false
set_option linter.unusedSimpArgs false
/-! ### spec.l1Num -/
theorem dig_cut (d : Nat) (h : d ≤ 9) : (⟨#[48, 49, 50, 51, 52, 53, 54, 55, 56, 57]⟩ : ByteArray).extract d (d + 1) = ⟨#[UInt8.ofNat (48 + d)]⟩ := by
  have : d = 0 ∨ d = 1 ∨ d = 2 ∨ d = 3 ∨ d = 4 ∨ d = 5 ∨ d = 6 ∨ d = 7 ∨ d = 8 ∨ d = 9 := by omega
  rcases this with rfl | rfl | rfl | rfl | rfl | rfl | rfl | rfl | rfl | rfl <;> rfl
theorem decDigits_len : ∀ (n : Nat), (Lib.decDigits n).length ≤ n + 1 := by
  intro n
  induction n using Nat.strongRecOn with
  | _ n ih =>
    rw [Lib.decDigits]
    split
    · simp
    · have := ih (n / 10) (by omega)
      rw [List.length_append, List.length_singleton]; omega
theorem dec_small {n : Nat} (h : n < 10) : Lib.decDigits n = [UInt8.ofNat (48 + n)] := by rw [Lib.decDigits, dif_pos h]
theorem dec_big {n : Nat} (h : ¬ n < 10) : Lib.decDigits n = Lib.decDigits (n / 10) ++ [UInt8.ofNat (48 + n % 10)] := by rw [Lib.decDigits, dif_neg h]
theorem pos_ev : ∀ (n : Nat), n ≤ 999999 → Ev (fun k => spec_l1Num.f k (n : Int)) (⟨(Lib.decDigits n).toArray⟩ : ByteArray) := by
  intro n
  induction n using Nat.strongRecOn with
  | _ n ih =>
    intro h
    refine ev_succ ?_
    simp only [spec_l1Num.f]
    refine ev_neg (by omega) ?_
    by_cases h10 : n < 10
    · rw [wrap_of (x := (n : Int) + 1) (by omega) (by omega)]
      refine ev_pos (by omega) (ev_pos (by omega) (ev_pos (by omega) (ev_pos (by omega) (ev_now ?_))))
      rw [dec_small h10, show ((n : Int)).toNat = n by omega, show ((n : Int) + 1).toNat = n + 1 by omega, dig_cut n (by omega)]
    · have e1 : Int.tdiv (n : Int) 10 = ((n / 10 : Nat) : Int) := by rw [Int.tdiv_eq_ediv_of_nonneg (by omega)]; omega
      have e2 : Int.tmod (n : Int) 10 = ((n % 10 : Nat) : Int) := by rw [Int.tmod_eq_emod_of_nonneg (by omega)]; omega
      have hl := decDigits_len (n / 10)
      rw [e1, e2, wrap_of (x := ((n / 10 : Nat) : Int)) (by omega) (by omega), wrap_of (x := ((n % 10 : Nat) : Int) + 1) (by omega) (by omega)]
      rw [show (((n % 10 : Nat) : Int)).toNat = n % 10 by omega, show (((n % 10 : Nat) : Int) + 1).toNat = n % 10 + 1 by omega, dig_cut (n % 10) (by omega)]
      refine ev_neg (by omega) (ev_bind (ih (n / 10) (by omega) (by omega)) (ev_pos (by omega) (ev_pos (by omega) (ev_pos (by omega) (ev_pos ?_ (ev_now ?_))))))
      · simp [ByteArray.size]; omega
      · rw [dec_big h10]
        apply ByteArray.ext; simp [ByteArray.data_append]
theorem neg_ev : ∀ (n : Nat), 1 ≤ n → n ≤ 999999 → Ev (fun k => spec_l1Num.f k (-(n : Int))) (⟨(45 :: Lib.decDigits n).toArray⟩ : ByteArray) := by
  intro n
  induction n using Nat.strongRecOn with
  | _ n ih =>
    intro h0 h
    refine ev_succ ?_
    simp only [spec_l1Num.f]
    refine ev_pos (by omega) ?_
    have hl := decDigits_len n
    by_cases h10 : n < 10
    · rw [show (- -(n : Int)) = (n : Int) by omega, wrap_of (x := (n : Int)) (by omega) (by omega)]
      refine ev_pos (by omega) (ev_bind (pos_ev n h) (ev_pos ?_ (ev_now ?_)))
      · simp [ByteArray.size]; omega
      · skip
        apply ByteArray.ext; simp [ByteArray.data_append]
    · have e1 : Int.tdiv (-(n : Int)) 10 = -((n / 10 : Nat) : Int) := by rw [Int.neg_tdiv, Int.tdiv_eq_ediv_of_nonneg (by omega)]; omega
      have e2 : Int.tmod (-(n : Int)) 10 = -((n % 10 : Nat) : Int) := by rw [Int.neg_tmod, Int.tmod_eq_emod_of_nonneg (by omega)]; omega
      have hl2 := decDigits_len (n / 10)
      have hl3 := decDigits_len (n % 10)
      rw [e1, e2, show (- -((n % 10 : Nat) : Int)) = ((n % 10 : Nat) : Int) by omega, wrap_of (x := -((n / 10 : Nat) : Int)) (by omega) (by omega), wrap_of (x := ((n % 10 : Nat) : Int)) (by omega) (by omega)]
      refine ev_neg (by omega) (ev_bind (ih (n / 10) (by omega) (by omega) (by omega)) (ev_bind (pos_ev (n % 10) (by omega)) (ev_pos ?_ (ev_now ?_))))
      · simp [ByteArray.size]; omega
      · rw [dec_big h10, dec_small (n := n % 10) (by omega)]
        apply ByteArray.ext; simp [ByteArray.data_append]

theorem dec_len2 : ∀ (m n : Nat), n < 10 ^ (m + 1) → (Lib.decDigits n).length ≤ m + 1 := by
  intro m
  induction m with
  | zero => intro n h; rw [dec_small (by omega)]; simp
  | succ m ih =>
    intro n h
    by_cases h10 : n < 10
    · rw [dec_small h10]; simp
    · rw [dec_big h10]
      have := ih (n / 10) (by rw [Nat.pow_succ] at h; omega)
      rw [List.length_append, List.length_singleton]; omega

theorem dec_range : ∀ (n : Nat), ∀ b ∈ Lib.decDigits n, 48 ≤ b.toNat ∧ b.toNat ≤ 57 := by
  intro n
  induction n using Nat.strongRecOn with
  | _ n ih =>
    intro b hb
    by_cases h : n < 10
    · rw [dec_small h, List.mem_singleton] at hb
      subst hb
      have : (UInt8.ofNat (48 + n)).toNat = (48 + n) % 256 := by simp
      omega
    · rw [dec_big h, List.mem_append] at hb
      rcases hb with hb | hb
      · exact ih (n / 10) (by omega) b hb
      · rw [List.mem_singleton] at hb
        subst hb
        have : (UInt8.ofNat (48 + n % 10)).toNat = (48 + n % 10) % 256 := by simp
        omega
theorem dec_pos (n : Nat) : 1 ≤ (Lib.decDigits n).length := by
  by_cases h : n < 10
  · rw [dec_small h]; simp
  · rw [dec_big h]; simp
theorem parse_app : ∀ (a b : List UInt8) (acc x : Nat), Lib.parseUint10 acc a = .ok x → Lib.parseUint10 acc (a ++ b) = Lib.parseUint10 x b := by
  intro a
  induction a with
  | nil => intro b acc x h; simp only [Lib.parseUint10] at h; injection h with h; subst h; rfl
  | cons c a ih =>
    intro b acc x h
    rw [List.cons_append]
    simp only [Lib.parseUint10] at h ⊢
    by_cases h1 : 48 ≤ c.toNat ∧ c.toNat ≤ 57
    · rw [if_pos h1] at h ⊢
      by_cases h2 : 1844674407370955162 ≤ acc
      · rw [if_pos h2] at h; cases h
      · rw [if_neg h2] at h ⊢
        by_cases h3 : 18446744073709551616 ≤ acc * 10 + (c.toNat - 48)
        · rw [if_pos h3] at h; cases h
        · rw [if_neg h3] at h ⊢
          exact ih b _ x h
    · rw [if_neg h1] at h; cases h
theorem parse_one (acc d : Nat) (ha : acc ≤ 1000000) (hd : d ≤ 9) : Lib.parseUint10 acc [UInt8.ofNat (48 + d)] = .ok (acc * 10 + d) := by
  have e : (UInt8.ofNat (48 + d)).toNat = 48 + d := by have : (UInt8.ofNat (48 + d)).toNat = (48 + d) % 256 := by simp
                                                       omega
  simp only [Lib.parseUint10, e]
  rw [if_pos ⟨by omega, by omega⟩, if_neg (by omega), if_neg (by omega)]
  congr 1; omega
theorem parse_dec : ∀ (n : Nat), n ≤ 999999 → Lib.parseUint10 0 (Lib.decDigits n) = .ok n := by
  intro n
  induction n using Nat.strongRecOn with
  | _ n ih =>
    intro h
    by_cases h10 : n < 10
    · rw [dec_small h10, parse_one 0 n (by omega) (by omega)]; congr 1; omega
    · rw [dec_big h10, parse_app _ _ _ _ (ih (n / 10) (by omega) (by omega)), parse_one _ _ (by omega) (by omega)]
      congr 1; omega
theorem parse_bound : ∀ (l : List UInt8) (acc x : Nat), Lib.parseUint10 acc l = .ok x → x < (acc + 1) * 10 ^ l.length := by
  intro l
  induction l with
  | nil => intro acc x h; simp only [Lib.parseUint10] at h; injection h with h; subst h; simp
  | cons c l ih =>
    intro acc x h
    simp only [Lib.parseUint10] at h
    split at h
    · split at h
      · cases h
      · split at h
        · cases h
        · have := ih _ _ h
          rename_i h1 _ _
          rw [List.length_cons, Nat.pow_succ]
          have h3 : (acc * 10 + (c.toNat - 48) + 1) * 10 ^ l.length ≤ ((acc + 1) * 10) * 10 ^ l.length := Nat.mul_le_mul_right _ (by omega)
          rw [Nat.mul_comm (10 ^ l.length) 10, ← Nat.mul_assoc]
          omega
    · cases h
theorem parse_no_range : ∀ (l : List UInt8) (acc : Nat), acc * 10 ^ l.length ≤ 1000000 → (acc + 1) * 10 ^ l.length ≤ 1000000 → Lib.parseUint10 acc l ≠ .range := by
  intro l
  induction l with
  | nil => intro acc _ _ h; simp only [Lib.parseUint10] at h; cases h
  | cons c l ih =>
    intro acc h1 h2 h
    have hp : 0 < 10 ^ l.length := Nat.pow_pos (by omega)
    rw [List.length_cons, Nat.pow_succ] at h1 h2
    have h2' : ((acc + 1) * 10) * 10 ^ l.length ≤ 1000000 := by rw [Nat.mul_assoc, Nat.mul_comm 10]; exact h2
    have h3 : (acc + 1) * 10 ≤ 1000000 := Nat.le_trans (Nat.le_mul_of_pos_right _ hp) h2'
    simp only [Lib.parseUint10] at h
    split at h
    · rename_i hc
      rw [if_neg (by omega), if_neg (by omega)] at h
      refine ih _ ?_ ?_ h
      · exact Nat.le_trans (Nat.mul_le_mul_right _ (by omega)) h2'
      · exact Nat.le_trans (Nat.mul_le_mul_right _ (by omega)) h2'
    · cases h
theorem itoa_pos (n : Nat) : Lib.itoa (n : Int) = Lib.decDigits n := by unfold Lib.itoa; rw [if_neg (by omega)]; congr 1
theorem itoa_neg {n : Nat} (h : 1 ≤ n) : Lib.itoa (-(n : Int)) = 45 :: Lib.decDigits n := by unfold Lib.itoa; rw [if_pos (by omega)]; congr 2; omega
theorem itoa_ev (m : Int) (h : -999999 ≤ m ∧ m ≤ 999999) : Ev (fun k => spec_l1Num.f k m) (⟨(Lib.itoa m).toArray⟩ : ByteArray) := by
  by_cases h0 : m < 0
  · obtain ⟨n, rfl⟩ : ∃ n : Nat, m = -(n : Int) := ⟨m.natAbs, by omega⟩
    rw [itoa_neg (by omega)]
    exact neg_ev n (by omega) (by omega)
  · obtain ⟨n, rfl⟩ : ∃ n : Nat, m = (n : Int) := ⟨m.toNat, by omega⟩
    rw [itoa_pos]
    exact pos_ev n (by omega)
theorem atoi_itoa (v : Int) (h : -999999 ≤ v ∧ v ≤ 999999) : Lib.atoiAll (Lib.itoa v) = .ok v := by
  by_cases h0 : v < 0
  · obtain ⟨n, rfl⟩ : ∃ n : Nat, v = -(n : Int) := ⟨v.natAbs, by omega⟩
    have hp := dec_pos n
    rw [itoa_neg (by omega)]
    simp only [Lib.atoiAll, show (45 : UInt8).toNat = 45 from rfl, or_true, if_true]
    have hm : Lib.parseMag (Lib.decDigits n) = .ok n := by
      unfold Lib.parseMag
      rw [if_neg (fun e => by rw [e] at hp; simp at hp), parse_dec n (by omega)]
    rw [hm]
    simp; omega
  · obtain ⟨n, rfl⟩ : ∃ n : Nat, v = (n : Int) := ⟨v.toNat, by omega⟩
    have hp := dec_pos n
    have hr := dec_range n
    have hm : Lib.parseMag (Lib.decDigits n) = .ok n := by
      unfold Lib.parseMag
      rw [if_neg (fun e => by rw [e] at hp; simp at hp), parse_dec n (by omega)]
    rw [itoa_pos]
    cases hd : Lib.decDigits n with
    | nil => rw [hd] at hp; simp at hp
    | cons c r =>
      have hc := hr c (by rw [hd]; simp)
      rw [hd] at hm
      simp only [Lib.atoiAll]
      rw [if_neg (by omega), hm]
      simp only
      rw [if_neg (by omega), if_neg (by omega), if_neg (by omega)]
/-! ### what the program tells -/
theorem bytes_of {s : ByteArray} {l : List UInt8} (h : l = s.data.toList) : (⟨l.toArray⟩ : ByteArray) = s := by
  subst h; apply ByteArray.ext; simp
theorem pi_yes (s : ByteArray) (v : Int) (hv : -999999 ≤ v ∧ v ≤ 999999) (h : Lib.itoa v = s.data.toList) : piV s = (v, true) := by
  unfold piV
  rw [← h, atoi_itoa v hv]
  have e : fiR v = (⟨(Lib.itoa v).toArray⟩, true) := by unfold fiR; rw [if_pos hv]
  simp only [e]
  rw [if_pos ⟨trivial, by rw [bytes_of h]⟩]
theorem pi_no (s : ByteArray) (h : ∀ v : Int, -999999 ≤ v ∧ v ≤ 999999 → Lib.itoa v ≠ s.data.toList) : piV s = (0, false) := by
  unfold piV
  split
  · rename_i v hv
    rw [if_neg]
    rintro ⟨h1, h2⟩
    unfold fiR at h1 h2
    by_cases hr : -999999 ≤ v ∧ v ≤ 999999
    · rw [if_pos hr] at h2
      rw [ByteArray.toList_eq, ByteArray.toList_eq] at h2
      exact h v hr (by simpa using h2)
    · rw [if_neg hr] at h1; cases h1
  · rfl
/-! ### what the reference tells -/
def endV (s t : ByteArray) (n : Nat) : Int × Bool :=
  if (Lib.itoa (if t.size < s.size then -(n : Int) else (n : Int))) = s.data.toList then (if t.size < s.size then -(n : Int) else (n : Int), true) else (0, false)
def finV (s t : ByteArray) : Lib.NumEnd Nat → Int × Bool
  | .ok n => endV s t n
  | _ => (0, false)
theorem toList_iff (l : List UInt8) (s : ByteArray) : ((⟨l.toArray⟩ : ByteArray).toList = s.toList) ↔ l = s.data.toList := by
  rw [ByteArray.toList_eq, ByteArray.toList_eq]
theorem read_l (s t : ByteArray) (ht : t.size ≤ 6) : ∀ (suf pre : List UInt8) (n : Nat), t.data.toList = pre ++ suf → (n + 1) * 10 ^ suf.length ≤ 1000000 → Ev (fun k => spec_l1Read.l0 k s t (n : Int) (pre.length : Int)) (finV s t (Lib.parseUint10 n suf)) := by
  intro suf
  induction suf with
  | nil =>
    intro pre n e hn
    have hsz : t.size = pre.length := by have : t.size = t.data.toList.length := by rw [Array.length_toList]; rfl
                                         rw [this, e]; simp
    simp only [List.length_nil, Nat.pow_zero, Nat.mul_one] at hn
    refine ev_succ ?_
    simp only [spec_l1Read.l0.eq_2]
    refine ev_neg (by omega) ?_
    simp only [Lib.parseUint10, finV]
    unfold endV
    by_cases hs : t.size < s.size
    · rw [wrap_of (x := -(n : Int)) (by omega) (by omega)]
      simp only [if_pos hs]
      refine ev_pos (by omega) (ev_bind (itoa_ev (-(n : Int)) (by omega)) ?_)
      by_cases h : Lib.itoa (-(n : Int)) = s.data.toList
      · rw [if_pos h]; exact ev_pos ((toList_iff _ _).2 h) (ev_now rfl)
      · rw [if_neg h]; exact ev_neg (fun hh => h ((toList_iff _ _).1 hh)) (ev_now rfl)
    · simp only [if_neg hs]
      refine ev_neg (by omega) (ev_bind (itoa_ev (n : Int) (by omega)) ?_)
      by_cases h : Lib.itoa (n : Int) = s.data.toList
      · rw [if_pos h]; exact ev_pos ((toList_iff _ _).2 h) (ev_now rfl)
      · rw [if_neg h]; exact ev_neg (fun hh => h ((toList_iff _ _).1 hh)) (ev_now rfl)
  | cons c suf ih =>
    intro pre n e hn
    have hsz : t.size = pre.length + 1 + suf.length := by have : t.size = t.data.toList.length := by rw [Array.length_toList]; rfl
                                                          rw [this, e]; simp; omega
    have hb : bt t (pre.length : Int) = (c.toNat : Int) := by
      have := bt_mid (s := t) (pre := pre.map (fun b => (b.toNat : Int))) (suf := suf.map (fun b => (b.toNat : Int))) (c := (c.toNat : Int)) (by rw [show bytesOf t = t.data.toList.map (fun b => (b.toNat : Int)) from rfl, e]; simp)
      simpa using this
    have hp : 0 < 10 ^ suf.length := Nat.pow_pos (by omega)
    rw [List.length_cons, Nat.pow_succ] at hn
    have hn' : ((n + 1) * 10) * 10 ^ suf.length ≤ 1000000 := by rw [Nat.mul_assoc, Nat.mul_comm 10]; exact hn
    have hn2 : (n + 1) * 10 ≤ 1000000 := Nat.le_trans (Nat.le_mul_of_pos_right _ hp) hn'
    have hc := c.toNat_lt
    refine ev_succ ?_
    simp only [spec_l1Read.l0.eq_2, hb]
    simp only [Lib.parseUint10]
    refine ev_pos (by omega) (ev_pos (by omega) ?_)
    by_cases h1 : (c.toNat : Int) < 48
    · refine ev_pos h1 (ev_now ?_)
      rw [if_neg (by omega)]; rfl
    · refine ev_neg h1 ?_
      by_cases h2 : (c.toNat : Int) > 57
      · refine ev_pos h2 (ev_now ?_)
        rw [if_neg (by omega)]; rfl
      · refine ev_neg h2 ?_
        rw [if_pos ⟨by omega, by omega⟩, if_neg (by omega), if_neg (by omega)]
        rw [wrap_of (x := 10 * (n : Int)) (by omega) (by omega), show ((c.toNat : Int) - 48) % 256 = (c.toNat : Int) - 48 by omega, wrap_of (x := 10 * (n : Int) + ((c.toNat : Int) - 48)) (by omega) (by omega), wrap_of (x := (pre.length : Int) + 1) (by omega) (by omega)]
        have := ih (pre ++ [c]) (n * 10 + (c.toNat - 48)) (by rw [e]; simp) (Nat.le_trans (Nat.mul_le_mul_right _ (by omega)) hn')
        rw [show (((n * 10 + (c.toNat - 48) : Nat)) : Int) = 10 * (n : Int) + ((c.toNat : Int) - 48) by omega, show (((pre ++ [c]).length : Nat) : Int) = (pre.length : Int) + 1 by simp] at this
        exact this
def readV (s t : ByteArray) : Int × Bool := if 1 ≤ t.size ∧ t.size ≤ 6 then finV s t (Lib.parseUint10 0 t.data.toList) else (0, false)
theorem j1_ev (s t : ByteArray) : Ev (fun k => spec_l1Read.j1 k s t) (readV s t) := by
  refine ev_succ ?_
  simp only [spec_l1Read.j1.eq_2]
  have hin : spec_l1In.f (t.size : Int) 1 6 = some (decide (1 ≤ t.size ∧ t.size ≤ 6)) := by
    unfold spec_l1In.f
    by_cases h : (t.size : Int) ≥ 1
    · rw [if_pos h]; congr 1; rw [Bool.eq_iff_iff]; simp only [decide_eq_true_eq]; omega
    · rw [if_neg h]; congr 1; rw [Bool.eq_iff_iff]; simp only [decide_eq_true_eq]; constructor
      · intro hh; cases hh
      · intro hh; omega
  rw [hin]
  refine ev_bind (a := decide (1 ≤ t.size ∧ t.size ≤ 6)) (ev_now rfl) ?_
  unfold readV
  by_cases h : 1 ≤ t.size ∧ t.size ≤ 6
  · rw [if_pos h]
    have hl : t.data.toList.length = t.size := by rw [Array.length_toList]; rfl
    refine ev_pos (decide_eq_true h) ?_
    have := read_l s t h.2 t.data.toList [] 0 rfl (by rw [hl, Nat.zero_add, Nat.one_mul]; exact Nat.le_trans (Nat.pow_le_pow_right (by decide) h.2) (by decide))
    exact this
  · rw [if_neg h]
    exact ev_neg (by simpa using h) (ev_now rfl)
def tB (s : ByteArray) : ByteArray := if s.size > 1 ∧ bt s 0 = 45 then s.extract 1 s.size else s
theorem read_ev (s : ByteArray) : Ev (fun k => spec_l1Read.f k s) (readV s (tB s)) := by
  unfold spec_l1Read.f tB
  by_cases h1 : (s.size : Int) > 1
  · refine ev_pos h1 (ev_pos (by omega) (ev_succ ?_))
    simp only [spec_l1Read.j0.eq_2]
    by_cases h2 : bt s 0 = 45
    · rw [if_pos ⟨by omega, h2⟩]
      exact ev_pos (by simp [h2]) (ev_pos (by omega) (j1_ev _ _))
    · rw [if_neg (fun hh => h2 hh.2)]
      exact ev_neg (by simp [h2]) (j1_ev _ _)
  · refine ev_neg h1 (ev_succ ?_)
    simp only [spec_l1Read.j0.eq_2]
    rw [if_neg (fun hh => h1 (by omega))]
    exact ev_neg (by simp) (j1_ev _ _)
theorem size_data (s : ByteArray) : s.size = s.data.toList.length := by rw [Array.length_toList]; rfl
theorem bt_head {s : ByteArray} {b : UInt8} {r : List UInt8} (h : s.data.toList = b :: r) : bt s 0 = (b.toNat : Int) :=
  bt_mid (s := s) (pre := []) (suf := r.map (fun b => (b.toNat : Int))) (by rw [show bytesOf s = s.data.toList.map (fun b => (b.toNat : Int)) from rfl, h]; rfl)
theorem read_val (s : ByteArray) : readV s (tB s) = piV s := by
  by_cases hA : ∃ v : Int, (-999999 ≤ v ∧ v ≤ 999999) ∧ Lib.itoa v = s.data.toList
  · obtain ⟨v, hv, hi⟩ := hA
    rw [pi_yes s v hv hi]
    by_cases h0 : v < 0
    · obtain ⟨n, rfl⟩ : ∃ n : Nat, v = -(n : Int) := ⟨v.natAbs, by omega⟩
      have hi2 := hi
      rw [itoa_neg (by omega)] at hi2
      have hp := dec_pos n
      have hl6 := dec_len2 5 n (by omega)
      have hsz : s.size = 1 + (Lib.decDigits n).length := by rw [size_data, ← hi2]; simp; omega
      have hb : bt s 0 = 45 := bt_head hi2.symm
      have ht : tB s = s.extract 1 s.size := by unfold tB; rw [if_pos ⟨by omega, hb⟩]
      have htd : (tB s).data.toList = Lib.decDigits n := by
        rw [ht, ByteArray.data_extract, Array.toList_extract, ← hi2]
        simp only [List.extract_eq_take_drop, List.drop_succ_cons, List.drop_zero]
        rw [List.take_of_length_le (by omega)]
      have hts : (tB s).size = (Lib.decDigits n).length := by rw [size_data, htd]
      unfold readV
      rw [if_pos ⟨by omega, by omega⟩, htd, parse_dec n (by omega)]
      simp only [finV]
      unfold endV
      simp only [if_pos (show (tB s).size < s.size by omega)]
      rw [if_pos hi]
    · obtain ⟨n, rfl⟩ : ∃ n : Nat, v = (n : Int) := ⟨v.toNat, by omega⟩
      have hi2 := hi
      rw [itoa_pos] at hi2
      have hp := dec_pos n
      have hl6 := dec_len2 5 n (by omega)
      have hsz : s.size = (Lib.decDigits n).length := by rw [size_data, ← hi2]
      have ht : tB s = s := by
        unfold tB
        rw [if_neg]
        rintro ⟨_, hb⟩
        cases hd : Lib.decDigits n with
        | nil => rw [hd] at hp; simp at hp
        | cons c r =>
          have hc := dec_range n c (by rw [hd]; simp)
          rw [hd] at hi2
          have := bt_head hi2.symm
          omega
      rw [ht]
      unfold readV
      rw [if_pos ⟨by omega, by omega⟩, ← hi2, parse_dec n (by omega)]
      simp only [finV]
      unfold endV
      simp only [if_neg (show ¬ s.size < s.size by omega)]
      rw [if_pos hi]
  · have hno : ∀ v : Int, -999999 ≤ v ∧ v ≤ 999999 → Lib.itoa v ≠ s.data.toList := fun v hv hi => hA ⟨v, hv, hi⟩
    rw [pi_no s hno]
    unfold readV
    by_cases h : 1 ≤ (tB s).size ∧ (tB s).size ≤ 6
    · rw [if_pos h]
      cases hp : Lib.parseUint10 0 (tB s).data.toList with
      | ok n =>
        have hb := parse_bound _ _ _ hp
        have hl : (tB s).data.toList.length = (tB s).size := (size_data _).symm
        have h6 : 10 ^ (tB s).data.toList.length ≤ 10 ^ 6 := Nat.pow_le_pow_right (by omega) (by omega)
        simp only [finV]
        unfold endV
        rw [if_neg (hno _ (by split <;> omega))]
      | _ => rfl
    · rw [if_neg h]
theorem FnExactParseInt (s : ByteArray) : ∃ k, spec_ParseInt.f k s = some (piV s) := by
  apply Ev.rounds (r := piV s)
  unfold spec_ParseInt.f
  refine ev_bind (read_ev s) (ev_now ?_)
  rw [read_val]
end Go.Proofs.YtjaplmgbhmgpiaaDoor.Pure
