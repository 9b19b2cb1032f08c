/- The pure statement of FnStrings: what its functions answer; numbers and their texts, texts and their sealed texts tell one another, and one changed byte of a sealed text shows. No condition. -/
import Derived.Test.YtlkddcabjcejdaaDoorMFnStringsx4
import Derived.Test.YtlkddcabjcejdaaDoorBase
import Derived.Test.YtlkddcabjcejdaaDoorBaseS
namespace Go.Proofs.YtlkddcabjcejdaaDoor.Pure
open Go Go.RowKit Go.Proofs.YtlkddcabjcejdaaDoor.MFnStrings Go.Proofs.YtlkddcabjcejdaaDoorW.PrintWords Go.Proofs.YtlkddcabjcejdaaDoor.Base
set_option linter.unusedVariables false
set_option linter.unusedSimpArgs false
/-! ### spec.l1Num -/
theorem dig_cut (d : Nat) (h : d ≤ 9) : (⟨#[48, 49, 50, 51, 52, 53, 54, 55, 56, 57]⟩ : ByteArray).extract d (d + 1) = ⟨#[UInt8.ofNat (48 + d)]⟩ := by
  have : d = 0 ∨ d = 1 ∨ d = 2 ∨ d = 3 ∨ d = 4 ∨ d = 5 ∨ d = 6 ∨ d = 7 ∨ d = 8 ∨ d = 9 := by omega
  rcases this with rfl | rfl | rfl | rfl | rfl | rfl | rfl | rfl | rfl | rfl <;> rfl
theorem decDigits_len : ∀ (n : Nat), (Lib.decDigits n).length ≤ n + 1 := by
  intro n
  induction n using Nat.strongRecOn with
  | _ n ih =>
    rw [Lib.decDigits]
    split
    · simp
    · have := ih (n / 10) (by omega)
      rw [List.length_append, List.length_singleton]; omega
theorem dec_small {n : Nat} (h : n < 10) : Lib.decDigits n = [UInt8.ofNat (48 + n)] := by rw [Lib.decDigits, dif_pos h]
theorem dec_big {n : Nat} (h : ¬ n < 10) : Lib.decDigits n = Lib.decDigits (n / 10) ++ [UInt8.ofNat (48 + n % 10)] := by rw [Lib.decDigits, dif_neg h]
theorem pos_ev : ∀ (n : Nat), n ≤ 999999 → Ev (fun k => spec_l1Num.f k (n : Int)) (⟨(Lib.decDigits n).toArray⟩ : ByteArray) := by
  intro n
  induction n using Nat.strongRecOn with
  | _ n ih =>
    intro h
    refine ev_succ ?_
    simp only [spec_l1Num.f]
    refine ev_neg (by omega) ?_
    by_cases h10 : n < 10
    · rw [wrap_of (x := (n : Int) + 1) (by omega) (by omega)]
      refine ev_pos (by omega) (ev_pos (by omega) (ev_pos (by omega) (ev_pos (by omega) (ev_now ?_))))
      rw [dec_small h10, show ((n : Int)).toNat = n by omega, show ((n : Int) + 1).toNat = n + 1 by omega, dig_cut n (by omega)]
    · have e1 : Int.tdiv (n : Int) 10 = ((n / 10 : Nat) : Int) := by rw [Int.tdiv_eq_ediv_of_nonneg (by omega)]; omega
      have e2 : Int.tmod (n : Int) 10 = ((n % 10 : Nat) : Int) := by rw [Int.tmod_eq_emod_of_nonneg (by omega)]; omega
      have hl := decDigits_len (n / 10)
      rw [e1, e2, wrap_of (x := ((n / 10 : Nat) : Int)) (by omega) (by omega), wrap_of (x := ((n % 10 : Nat) : Int) + 1) (by omega) (by omega)]
      rw [show (((n % 10 : Nat) : Int)).toNat = n % 10 by omega, show (((n % 10 : Nat) : Int) + 1).toNat = n % 10 + 1 by omega, dig_cut (n % 10) (by omega)]
      refine ev_neg (by omega) (ev_bind (ih (n / 10) (by omega) (by omega)) (ev_pos (by omega) (ev_pos (by omega) (ev_pos (by omega) (ev_pos ?_ (ev_now ?_))))))
      · simp [ByteArray.size]; omega
      · rw [dec_big h10]
        apply ByteArray.ext; simp [ByteArray.data_append]
theorem neg_ev : ∀ (n : Nat), 1 ≤ n → n ≤ 999999 → Ev (fun k => spec_l1Num.f k (-(n : Int))) (⟨(45 :: Lib.decDigits n).toArray⟩ : ByteArray) := by
  intro n
  induction n using Nat.strongRecOn with
  | _ n ih =>
    intro h0 h
    refine ev_succ ?_
    simp only [spec_l1Num.f]
    refine ev_pos (by omega) ?_
    have hl := decDigits_len n
    by_cases h10 : n < 10
    · rw [show (- -(n : Int)) = (n : Int) by omega, wrap_of (x := (n : Int)) (by omega) (by omega)]
      refine ev_pos (by omega) (ev_bind (pos_ev n h) (ev_pos ?_ (ev_now ?_)))
      · simp [ByteArray.size]; omega
      · skip
        apply ByteArray.ext; simp [ByteArray.data_append]
    · have e1 : Int.tdiv (-(n : Int)) 10 = -((n / 10 : Nat) : Int) := by rw [Int.neg_tdiv, Int.tdiv_eq_ediv_of_nonneg (by omega)]; omega
      have e2 : Int.tmod (-(n : Int)) 10 = -((n % 10 : Nat) : Int) := by rw [Int.neg_tmod, Int.tmod_eq_emod_of_nonneg (by omega)]; omega
      have hl2 := decDigits_len (n / 10)
      have hl3 := decDigits_len (n % 10)
      rw [e1, e2, show (- -((n % 10 : Nat) : Int)) = ((n % 10 : Nat) : Int) by omega, wrap_of (x := -((n / 10 : Nat) : Int)) (by omega) (by omega), wrap_of (x := ((n % 10 : Nat) : Int)) (by omega) (by omega)]
      refine ev_neg (by omega) (ev_bind (ih (n / 10) (by omega) (by omega) (by omega)) (ev_bind (pos_ev (n % 10) (by omega)) (ev_pos ?_ (ev_now ?_))))
      · simp [ByteArray.size]; omega
      · rw [dec_big h10, dec_small (n := n % 10) (by omega)]
        apply ByteArray.ext; simp [ByteArray.data_append]

/-! ### spec.l1Stands -/
def hasB (s : ByteArray) (b : UInt8) : Bool := decide (0 ≤ Lib.indexByte s.data.toList b)
theorem index_any (b : UInt8) : ∀ l : List UInt8, decide (0 ≤ Lib.indexByte l b) = l.any (fun x => x == b) := by
  intro l
  induction l with
  | nil => rfl
  | cons x l ih =>
    have hg := Lib.indexByte_ge l b
    simp only [Lib.indexByte, List.any_cons, ← ih]
    by_cases hx : x == b
    · simp [hx]
    · simp only [hx, Bool.false_eq_true, if_false, Bool.false_or]
      by_cases h1 : Lib.indexByte l b == -1
      · have := eq_of_beq h1; simp [this]
      · have h2 : Lib.indexByte l b ≠ -1 := fun e => h1 (by simp [e])
        rw [if_neg h1]
        have : (0 ≤ Lib.indexByte l b + 1) ↔ (0 ≤ Lib.indexByte l b) := by omega
        simp [this]

theorem stands_l (s : ByteArray) (b : UInt8) (hl : s.size ≤ 1048576) : ∀ (suf pre : List Int), bytesOf s = pre ++ suf → Ev (fun k => spec_l1Stands.l0 k s (b.toNat : Int) (pre.length : Int)) (suf.any (fun x => decide (x = (b.toNat : Int)))) := by
  intro suf
  induction suf with
  | nil =>
    intro pre e
    have h := size_end e
    refine ev_succ ?_
    simp only [spec_l1Stands.l0.eq_2]
    exact ev_neg (by omega) (ev_now rfl)
  | cons c suf ih =>
    intro pre e
    have h := size_mid e
    refine ev_succ ?_
    simp only [spec_l1Stands.l0.eq_2, bt_mid e]
    rw [wrap_snoc (pre := pre) (c := c) (by omega)]
    refine ev_pos (by omega) (ev_pos (by omega) ?_)
    by_cases hc : c = (b.toNat : Int)
    · exact ev_pos hc (ev_now (by simp [hc]))
    · exact ev_neg hc (ev_eq (ih _ (snoc_mid e)) (by simp [hc]))
theorem stands_ev (s : ByteArray) (b : UInt8) (hl : s.size ≤ 1048576) : Ev (fun k => spec_l1Stands.f k s (b.toNat : Int)) (hasB s b) := by
  unfold spec_l1Stands.f
  refine ev_eq (stands_l s b hl (bytesOf s) [] rfl) ?_
  unfold hasB
  rw [index_any, show bytesOf s = s.data.toList.map (fun x => (x.toNat : Int)) from rfl, List.any_map]
  congr 1
  funext x
  simp only [Function.comp]
  rw [Bool.eq_iff_iff]
  simp only [decide_eq_true_eq, beq_iff_eq]
  constructor
  · intro h; exact UInt8.toNat_inj.1 (by omega)
  · rintro rfl; rfl

/-! ### spec.l1Sum, impl.checksum -/
def sumStep (h c : Int) : Int := Int.tmod (wrap64 ((wrap64 ((wrap64 (41 * h)) + (wrap64 c))) + 1)) 999979

theorem spec_sum (s : ByteArray) (hs : s.size ≤ 140737488351232) : ∀ (suf pre : List Int) (h : Int), bytesOf s = pre ++ suf → Ev (fun k => spec_l1Sum.l0 k s h (pre.length : Int)) (suf.foldl sumStep h) := by
  intro suf
  induction suf with
  | nil =>
    intro pre h e
    have hl := size_end e
    refine ev_succ ?_
    simp only [spec_l1Sum.l0.eq_2]
    refine ev_neg (by omega) ?_
    exact ev_now rfl
  | cons c suf ih =>
    intro pre h e
    have hl := size_mid e
    refine ev_succ ?_
    simp only [spec_l1Sum.l0.eq_2, bt_mid e]
    refine ev_pos (by omega) (ev_pos (by omega) ?_)
    rw [wrap_snoc (pre := pre) (c := c) (by omega)]
    exact ih _ _ (snoc_mid e)

theorem impl_sum (s : ByteArray) (hs : s.size ≤ 140737488351232) : ∀ (suf pre : List Int) (h : Int), bytesOf s = pre ++ suf → Ev (fun k => impl_checksum.l0 k s h (s.size : Int) (pre.length : Int)) (suf.foldl sumStep h) := by
  intro suf
  induction suf with
  | nil =>
    intro pre h e
    have hl := size_end e
    refine ev_succ ?_
    simp only [impl_checksum.l0.eq_2]
    refine ev_neg (by omega) ?_
    exact ev_now rfl
  | cons c suf ih =>
    intro pre h e
    have hl := size_mid e
    refine ev_succ ?_
    simp only [impl_checksum.l0.eq_2, bt_mid e]
    refine ev_pos (by omega) (ev_pos (by omega) (ev_pos (by omega) ?_))
    rw [wrap_snoc (pre := pre) (c := c) (by omega)]
    exact ih _ _ (snoc_mid e)


/-! ### spec.l1Seal -/
theorem dec_len2 : ∀ (m n : Nat), n < 10 ^ (m + 1) → (Lib.decDigits n).length ≤ m + 1 := by
  intro m
  induction m with
  | zero => intro n h; rw [dec_small (by omega)]; simp
  | succ m ih =>
    intro n h
    by_cases h10 : n < 10
    · rw [dec_small h10]; simp
    · rw [dec_big h10]
      have := ih (n / 10) (by rw [Nat.pow_succ] at h; omega)
      rw [List.length_append, List.length_singleton]; omega

theorem fold_range : ∀ (suf : List Int) (h : Int), (∀ c ∈ suf, 0 ≤ c ∧ c ≤ 255) → 0 ≤ h → h ≤ 1000000 → 0 ≤ suf.foldl sumStep h ∧ suf.foldl sumStep h ≤ 1000000 := by
  intro suf
  induction suf with
  | nil => intro h _ h0 h1; exact ⟨h0, h1⟩
  | cons c suf ih =>
    intro h hc h0 h1
    have hcc := hc c (by simp)
    rw [List.foldl_cons]
    have e : sumStep h c = (41 * h + c + 1) % 999979 := by
      unfold sumStep
      rw [wrap_of (x := 41 * h) (by omega) (by omega), wrap_of (x := c) (by omega) (by omega), wrap_of (x := 41 * h + c) (by omega) (by omega), wrap_of (x := 41 * h + c + 1) (by omega) (by omega)]
      rw [Int.tmod_eq_emod_of_nonneg (by omega)]
    exact ih _ (fun x hx => hc x (by simp [hx])) (by rw [e]; omega) (by rw [e]; omega)
def csum (s : ByteArray) : Int := (bytesOf s).foldl sumStep 7
theorem csum_range (s : ByteArray) : 0 ≤ csum s ∧ csum s ≤ 1000000 := fold_range _ _ (fun c hc => bytes_range hc) (by omega) (by omega)
def numB (h : Int) : ByteArray := ⟨(Lib.itoa h).toArray⟩
theorem spec_csum_ev (s : ByteArray) (hs : s.size ≤ 140737488351232) : Ev (fun k => spec_l1Sum.f k s) (csum s) := by
  unfold spec_l1Sum.f
  exact spec_sum s hs (bytesOf s) [] 7 rfl
theorem impl_csum_ev (s : ByteArray) (hs : s.size ≤ 140737488351232) : Ev (fun k => impl_checksum.f k s) (csum s) := by
  unfold impl_checksum.f
  exact impl_sum s hs (bytesOf s) [] 7 rfl
theorem fold_lt : ∀ (suf : List Int) (h : Int), (∀ c ∈ suf, 0 ≤ c ∧ c ≤ 255) → 0 ≤ h → h ≤ 999978 → suf.foldl sumStep h ≤ 999978 := by
  intro suf
  induction suf with
  | nil => intro h _ h0 h1; exact h1
  | cons c suf ih =>
    intro h hc h0 h1
    have hcc := hc c (by simp)
    rw [List.foldl_cons]
    have e : sumStep h c = (41 * h + c + 1) % 999979 := by
      unfold sumStep
      rw [wrap_of (x := 41 * h) (by omega) (by omega), wrap_of (x := c) (by omega) (by omega), wrap_of (x := 41 * h + c) (by omega) (by omega), wrap_of (x := 41 * h + c + 1) (by omega) (by omega)]
      rw [Int.tmod_eq_emod_of_nonneg (by omega)]
    exact ih _ (fun x hx => hc x (by simp [hx])) (by rw [e]; omega) (by rw [e]; omega)
theorem csum_lt (s : ByteArray) : csum s ≤ 999978 := fold_lt _ _ (fun c hc => bytes_range hc) (by omega) (by omega)
theorem num_size (s : ByteArray) : (numB (csum s)).size ≤ 7 := by
  have h := csum_range s
  obtain ⟨n, hn⟩ : ∃ n : Nat, csum s = (n : Int) := ⟨(csum s).toNat, by omega⟩
  unfold numB
  have hi : Lib.itoa (csum s) = Lib.decDigits n := by rw [hn]; unfold Lib.itoa; rw [if_neg (by omega)]; congr 1
  rw [hi]
  have := dec_len2 6 n (by omega)
  simpa [ByteArray.size] using this
def sealB (s : ByteArray) : ByteArray := (s ++ (⟨#[35]⟩ : ByteArray)) ++ numB (csum s)
theorem seal_size (s : ByteArray) : (sealB s).size = s.size + 1 + (numB (csum s)).size := by
  unfold sealB
  rw [ByteArray.size_append, ByteArray.size_append]; rfl
theorem seal_ev (s : ByteArray) (hs : s.size ≤ 140737488351232) : Ev (fun k => spec_l1Seal.f k s) (sealB s) := by
  unfold spec_l1Seal.f
  have h := csum_range s
  have hl := csum_lt s
  have hz := num_size s
  have hz1 : (s ++ (⟨#[35]⟩ : ByteArray)).size = s.size + 1 := by rw [ByteArray.size_append]; rfl
  obtain ⟨n, hn⟩ : ∃ n : Nat, csum s = (n : Int) := ⟨(csum s).toNat, by omega⟩
  have hi : numB (csum s) = ⟨(Lib.decDigits n).toArray⟩ := by unfold numB; rw [hn]; unfold Lib.itoa; rw [if_neg (by omega)]; congr 1
  have hp : Ev (fun k => spec_l1Num.f k (csum s)) (numB (csum s)) := by rw [hi, hn]; exact pos_ev n (by omega)
  refine ev_pos (by omega) (ev_bind (spec_csum_ev s hs) (ev_bind hp (ev_pos (by rw [hz1]; omega) (ev_now rfl))))

/-! ### ParseInt -/
theorem dec_range : ∀ (n : Nat), ∀ b ∈ Lib.decDigits n, 48 ≤ b.toNat ∧ b.toNat ≤ 57 := by
  intro n
  induction n using Nat.strongRecOn with
  | _ n ih =>
    intro b hb
    by_cases h : n < 10
    · rw [dec_small h, List.mem_singleton] at hb
      subst hb
      have : (UInt8.ofNat (48 + n)).toNat = (48 + n) % 256 := by simp
      omega
    · rw [dec_big h, List.mem_append] at hb
      rcases hb with hb | hb
      · exact ih (n / 10) (by omega) b hb
      · rw [List.mem_singleton] at hb
        subst hb
        have : (UInt8.ofNat (48 + n % 10)).toNat = (48 + n % 10) % 256 := by simp
        omega
theorem dec_pos (n : Nat) : 1 ≤ (Lib.decDigits n).length := by
  by_cases h : n < 10
  · rw [dec_small h]; simp
  · rw [dec_big h]; simp
theorem parse_app : ∀ (a b : List UInt8) (acc x : Nat), Lib.parseUint10 acc a = .ok x → Lib.parseUint10 acc (a ++ b) = Lib.parseUint10 x b := by
  intro a
  induction a with
  | nil => intro b acc x h; simp only [Lib.parseUint10] at h; injection h with h; subst h; rfl
  | cons c a ih =>
    intro b acc x h
    rw [List.cons_append]
    simp only [Lib.parseUint10] at h ⊢
    by_cases h1 : 48 ≤ c.toNat ∧ c.toNat ≤ 57
    · rw [if_pos h1] at h ⊢
      by_cases h2 : 1844674407370955162 ≤ acc
      · rw [if_pos h2] at h; cases h
      · rw [if_neg h2] at h ⊢
        by_cases h3 : 18446744073709551616 ≤ acc * 10 + (c.toNat - 48)
        · rw [if_pos h3] at h; cases h
        · rw [if_neg h3] at h ⊢
          exact ih b _ x h
    · rw [if_neg h1] at h; cases h
theorem parse_one (acc d : Nat) (ha : acc ≤ 1000000) (hd : d ≤ 9) : Lib.parseUint10 acc [UInt8.ofNat (48 + d)] = .ok (acc * 10 + d) := by
  have e : (UInt8.ofNat (48 + d)).toNat = 48 + d := by have : (UInt8.ofNat (48 + d)).toNat = (48 + d) % 256 := by simp
                                                       omega
  simp only [Lib.parseUint10, e]
  rw [if_pos ⟨by omega, by omega⟩, if_neg (by omega), if_neg (by omega)]
  congr 1; omega
theorem parse_dec : ∀ (n : Nat), n ≤ 999999 → Lib.parseUint10 0 (Lib.decDigits n) = .ok n := by
  intro n
  induction n using Nat.strongRecOn with
  | _ n ih =>
    intro h
    by_cases h10 : n < 10
    · rw [dec_small h10, parse_one 0 n (by omega) (by omega)]; congr 1; omega
    · rw [dec_big h10, parse_app _ _ _ _ (ih (n / 10) (by omega) (by omega)), parse_one _ _ (by omega) (by omega)]
      congr 1; omega
theorem parse_bound : ∀ (l : List UInt8) (acc x : Nat), Lib.parseUint10 acc l = .ok x → x < (acc + 1) * 10 ^ l.length := by
  intro l
  induction l with
  | nil => intro acc x h; simp only [Lib.parseUint10] at h; injection h with h; subst h; simp
  | cons c l ih =>
    intro acc x h
    simp only [Lib.parseUint10] at h
    split at h
    · split at h
      · cases h
      · split at h
        · cases h
        · have := ih _ _ h
          rename_i h1 _ _
          rw [List.length_cons, Nat.pow_succ]
          have h3 : (acc * 10 + (c.toNat - 48) + 1) * 10 ^ l.length ≤ ((acc + 1) * 10) * 10 ^ l.length := Nat.mul_le_mul_right _ (by omega)
          rw [Nat.mul_comm (10 ^ l.length) 10, ← Nat.mul_assoc]
          omega
    · cases h
theorem parse_no_range : ∀ (l : List UInt8) (acc : Nat), acc * 10 ^ l.length ≤ 1000000 → (acc + 1) * 10 ^ l.length ≤ 1000000 → Lib.parseUint10 acc l ≠ .range := by
  intro l
  induction l with
  | nil => intro acc _ _ h; simp only [Lib.parseUint10] at h; cases h
  | cons c l ih =>
    intro acc h1 h2 h
    have hp : 0 < 10 ^ l.length := Nat.pow_pos (by omega)
    rw [List.length_cons, Nat.pow_succ] at h1 h2
    have h2' : ((acc + 1) * 10) * 10 ^ l.length ≤ 1000000 := by rw [Nat.mul_assoc, Nat.mul_comm 10]; exact h2
    have h3 : (acc + 1) * 10 ≤ 1000000 := Nat.le_trans (Nat.le_mul_of_pos_right _ hp) h2'
    simp only [Lib.parseUint10] at h
    split at h
    · rename_i hc
      rw [if_neg (by omega), if_neg (by omega)] at h
      refine ih _ ?_ ?_ h
      · exact Nat.le_trans (Nat.mul_le_mul_right _ (by omega)) h2'
      · exact Nat.le_trans (Nat.mul_le_mul_right _ (by omega)) h2'
    · cases h
theorem itoa_pos (n : Nat) : Lib.itoa (n : Int) = Lib.decDigits n := by unfold Lib.itoa; rw [if_neg (by omega)]; congr 1
theorem itoa_neg {n : Nat} (h : 1 ≤ n) : Lib.itoa (-(n : Int)) = 45 :: Lib.decDigits n := by unfold Lib.itoa; rw [if_pos (by omega)]; congr 2; omega
theorem itoa_ev (m : Int) (h : -999999 ≤ m ∧ m ≤ 999999) : Ev (fun k => spec_l1Num.f k m) (⟨(Lib.itoa m).toArray⟩ : ByteArray) := by
  by_cases h0 : m < 0
  · obtain ⟨n, rfl⟩ : ∃ n : Nat, m = -(n : Int) := ⟨m.natAbs, by omega⟩
    rw [itoa_neg (by omega)]
    exact neg_ev n (by omega) (by omega)
  · obtain ⟨n, rfl⟩ : ∃ n : Nat, m = (n : Int) := ⟨m.toNat, by omega⟩
    rw [itoa_pos]
    exact pos_ev n (by omega)
theorem atoi_itoa (v : Int) (h : -999999 ≤ v ∧ v ≤ 999999) : Lib.atoiAll (Lib.itoa v) = .ok v := by
  by_cases h0 : v < 0
  · obtain ⟨n, rfl⟩ : ∃ n : Nat, v = -(n : Int) := ⟨v.natAbs, by omega⟩
    have hp := dec_pos n
    rw [itoa_neg (by omega)]
    simp only [Lib.atoiAll, show (45 : UInt8).toNat = 45 from rfl, or_true, if_true]
    have hm : Lib.parseMag (Lib.decDigits n) = .ok n := by
      unfold Lib.parseMag
      rw [if_neg (fun e => by rw [e] at hp; simp at hp), parse_dec n (by omega)]
    rw [hm]
    simp; omega
  · obtain ⟨n, rfl⟩ : ∃ n : Nat, v = (n : Int) := ⟨v.toNat, by omega⟩
    have hp := dec_pos n
    have hr := dec_range n
    have hm : Lib.parseMag (Lib.decDigits n) = .ok n := by
      unfold Lib.parseMag
      rw [if_neg (fun e => by rw [e] at hp; simp at hp), parse_dec n (by omega)]
    rw [itoa_pos]
    cases hd : Lib.decDigits n with
    | nil => rw [hd] at hp; simp at hp
    | cons c r =>
      have hc := hr c (by rw [hd]; simp)
      rw [hd] at hm
      simp only [Lib.atoiAll]
      rw [if_neg (by omega), hm]
      simp only
      rw [if_neg (by omega), if_neg (by omega), if_neg (by omega)]
/-! ### what the program tells -/
theorem bytes_of {s : ByteArray} {l : List UInt8} (h : l = s.data.toList) : (⟨l.toArray⟩ : ByteArray) = s := by
  subst h; apply ByteArray.ext; simp
theorem pi_yes (s : ByteArray) (v : Int) (hv : -999999 ≤ v ∧ v ≤ 999999) (h : Lib.itoa v = s.data.toList) : piV s = (v, true) := by
  unfold piV
  rw [← h, atoi_itoa v hv]
  have e : fiR v = (⟨(Lib.itoa v).toArray⟩, true) := by unfold fiR; rw [if_pos hv]
  simp only [e]
  rw [if_pos ⟨trivial, by rw [bytes_of h]⟩]
theorem pi_no (s : ByteArray) (h : ∀ v : Int, -999999 ≤ v ∧ v ≤ 999999 → Lib.itoa v ≠ s.data.toList) : piV s = (0, false) := by
  unfold piV
  split
  · rename_i v hv
    rw [if_neg]
    rintro ⟨h1, h2⟩
    unfold fiR at h1 h2
    by_cases hr : -999999 ≤ v ∧ v ≤ 999999
    · rw [if_pos hr] at h2
      rw [ByteArray.toList_eq, ByteArray.toList_eq] at h2
      exact h v hr (by simpa using h2)
    · rw [if_neg hr] at h1; cases h1
  · rfl
/-! ### what the reference tells -/
def endV (s t : ByteArray) (n : Nat) : Int × Bool :=
  if (Lib.itoa (if t.size < s.size then -(n : Int) else (n : Int))) = s.data.toList then (if t.size < s.size then -(n : Int) else (n : Int), true) else (0, false)
def finV (s t : ByteArray) : Lib.NumEnd Nat → Int × Bool
  | .ok n => endV s t n
  | _ => (0, false)
theorem toList_iff (l : List UInt8) (s : ByteArray) : ((⟨l.toArray⟩ : ByteArray).toList = s.toList) ↔ l = s.data.toList := by
  rw [ByteArray.toList_eq, ByteArray.toList_eq]
theorem read_l (s t : ByteArray) (ht : t.size ≤ 6) : ∀ (suf pre : List UInt8) (n : Nat), t.data.toList = pre ++ suf → (n + 1) * 10 ^ suf.length ≤ 1000000 → Ev (fun k => spec_l1Read.l0 k s t (n : Int) (pre.length : Int)) (finV s t (Lib.parseUint10 n suf)) := by
  intro suf
  induction suf with
  | nil =>
    intro pre n e hn
    have hsz : t.size = pre.length := by have : t.size = t.data.toList.length := by rw [Array.length_toList]; rfl
                                         rw [this, e]; simp
    simp only [List.length_nil, Nat.pow_zero, Nat.mul_one] at hn
    refine ev_succ ?_
    simp only [spec_l1Read.l0.eq_2]
    refine ev_neg (by omega) ?_
    simp only [Lib.parseUint10, finV]
    unfold endV
    by_cases hs : t.size < s.size
    · rw [wrap_of (x := -(n : Int)) (by omega) (by omega)]
      simp only [if_pos hs]
      refine ev_pos (by omega) (ev_bind (itoa_ev (-(n : Int)) (by omega)) ?_)
      by_cases h : Lib.itoa (-(n : Int)) = s.data.toList
      · rw [if_pos h]; exact ev_pos ((toList_iff _ _).2 h) (ev_now rfl)
      · rw [if_neg h]; exact ev_neg (fun hh => h ((toList_iff _ _).1 hh)) (ev_now rfl)
    · simp only [if_neg hs]
      refine ev_neg (by omega) (ev_bind (itoa_ev (n : Int) (by omega)) ?_)
      by_cases h : Lib.itoa (n : Int) = s.data.toList
      · rw [if_pos h]; exact ev_pos ((toList_iff _ _).2 h) (ev_now rfl)
      · rw [if_neg h]; exact ev_neg (fun hh => h ((toList_iff _ _).1 hh)) (ev_now rfl)
  | cons c suf ih =>
    intro pre n e hn
    have hsz : t.size = pre.length + 1 + suf.length := by have : t.size = t.data.toList.length := by rw [Array.length_toList]; rfl
                                                          rw [this, e]; simp; omega
    have hb : bt t (pre.length : Int) = (c.toNat : Int) := by
      have := bt_mid (s := t) (pre := pre.map (fun b => (b.toNat : Int))) (suf := suf.map (fun b => (b.toNat : Int))) (c := (c.toNat : Int)) (by rw [show bytesOf t = t.data.toList.map (fun b => (b.toNat : Int)) from rfl, e]; simp)
      simpa using this
    have hp : 0 < 10 ^ suf.length := Nat.pow_pos (by omega)
    rw [List.length_cons, Nat.pow_succ] at hn
    have hn' : ((n + 1) * 10) * 10 ^ suf.length ≤ 1000000 := by rw [Nat.mul_assoc, Nat.mul_comm 10]; exact hn
    have hn2 : (n + 1) * 10 ≤ 1000000 := Nat.le_trans (Nat.le_mul_of_pos_right _ hp) hn'
    have hc := c.toNat_lt
    refine ev_succ ?_
    simp only [spec_l1Read.l0.eq_2, hb]
    simp only [Lib.parseUint10]
    refine ev_pos (by omega) (ev_pos (by omega) ?_)
    by_cases h1 : (c.toNat : Int) < 48
    · refine ev_pos h1 (ev_now ?_)
      rw [if_neg (by omega)]; rfl
    · refine ev_neg h1 ?_
      by_cases h2 : (c.toNat : Int) > 57
      · refine ev_pos h2 (ev_now ?_)
        rw [if_neg (by omega)]; rfl
      · refine ev_neg h2 ?_
        rw [if_pos ⟨by omega, by omega⟩, if_neg (by omega), if_neg (by omega)]
        rw [wrap_of (x := 10 * (n : Int)) (by omega) (by omega), show ((c.toNat : Int) - 48) % 256 = (c.toNat : Int) - 48 by omega, wrap_of (x := 10 * (n : Int) + ((c.toNat : Int) - 48)) (by omega) (by omega), wrap_of (x := (pre.length : Int) + 1) (by omega) (by omega)]
        have := ih (pre ++ [c]) (n * 10 + (c.toNat - 48)) (by rw [e]; simp) (Nat.le_trans (Nat.mul_le_mul_right _ (by omega)) hn')
        rw [show (((n * 10 + (c.toNat - 48) : Nat)) : Int) = 10 * (n : Int) + ((c.toNat : Int) - 48) by omega, show (((pre ++ [c]).length : Nat) : Int) = (pre.length : Int) + 1 by simp] at this
        exact this
def readV (s t : ByteArray) : Int × Bool := if 1 ≤ t.size ∧ t.size ≤ 6 then finV s t (Lib.parseUint10 0 t.data.toList) else (0, false)
theorem j1_ev (s t : ByteArray) : Ev (fun k => spec_l1Read.j1 k s t) (readV s t) := by
  refine ev_succ ?_
  simp only [spec_l1Read.j1.eq_2]
  have hin : spec_l1In.f (t.size : Int) 1 6 = some (decide (1 ≤ t.size ∧ t.size ≤ 6)) := by
    unfold spec_l1In.f
    by_cases h : (t.size : Int) ≥ 1
    · rw [if_pos h]; congr 1; rw [Bool.eq_iff_iff]; simp only [decide_eq_true_eq]; omega
    · rw [if_neg h]; congr 1; rw [Bool.eq_iff_iff]; simp only [decide_eq_true_eq]; constructor
      · intro hh; cases hh
      · intro hh; omega
  rw [hin]
  refine ev_bind (a := decide (1 ≤ t.size ∧ t.size ≤ 6)) (ev_now rfl) ?_
  unfold readV
  by_cases h : 1 ≤ t.size ∧ t.size ≤ 6
  · rw [if_pos h]
    have hl : t.data.toList.length = t.size := by rw [Array.length_toList]; rfl
    refine ev_pos (decide_eq_true h) ?_
    have := read_l s t h.2 t.data.toList [] 0 rfl (by rw [hl, Nat.zero_add, Nat.one_mul]; exact Nat.le_trans (Nat.pow_le_pow_right (by decide) h.2) (by decide))
    exact this
  · rw [if_neg h]
    exact ev_neg (by simpa using h) (ev_now rfl)
def tB (s : ByteArray) : ByteArray := if s.size > 1 ∧ bt s 0 = 45 then s.extract 1 s.size else s
theorem read_ev (s : ByteArray) : Ev (fun k => spec_l1Read.f k s) (readV s (tB s)) := by
  unfold spec_l1Read.f tB
  by_cases h1 : (s.size : Int) > 1
  · refine ev_pos h1 (ev_pos (by omega) (ev_succ ?_))
    simp only [spec_l1Read.j0.eq_2]
    by_cases h2 : bt s 0 = 45
    · rw [if_pos ⟨by omega, h2⟩]
      exact ev_pos (by simp [h2]) (ev_pos (by omega) (j1_ev _ _))
    · rw [if_neg (fun hh => h2 hh.2)]
      exact ev_neg (by simp [h2]) (j1_ev _ _)
  · refine ev_neg h1 (ev_succ ?_)
    simp only [spec_l1Read.j0.eq_2]
    rw [if_neg (fun hh => h1 (by omega))]
    exact ev_neg (by simp) (j1_ev _ _)
theorem size_data (s : ByteArray) : s.size = s.data.toList.length := by rw [Array.length_toList]; rfl
theorem bt_head {s : ByteArray} {b : UInt8} {r : List UInt8} (h : s.data.toList = b :: r) : bt s 0 = (b.toNat : Int) :=
  bt_mid (s := s) (pre := []) (suf := r.map (fun b => (b.toNat : Int))) (by rw [show bytesOf s = s.data.toList.map (fun b => (b.toNat : Int)) from rfl, h]; rfl)
theorem read_val (s : ByteArray) : readV s (tB s) = piV s := by
  by_cases hA : ∃ v : Int, (-999999 ≤ v ∧ v ≤ 999999) ∧ Lib.itoa v = s.data.toList
  · obtain ⟨v, hv, hi⟩ := hA
    rw [pi_yes s v hv hi]
    by_cases h0 : v < 0
    · obtain ⟨n, rfl⟩ : ∃ n : Nat, v = -(n : Int) := ⟨v.natAbs, by omega⟩
      have hi2 := hi
      rw [itoa_neg (by omega)] at hi2
      have hp := dec_pos n
      have hl6 := dec_len2 5 n (by omega)
      have hsz : s.size = 1 + (Lib.decDigits n).length := by rw [size_data, ← hi2]; simp; omega
      have hb : bt s 0 = 45 := bt_head hi2.symm
      have ht : tB s = s.extract 1 s.size := by unfold tB; rw [if_pos ⟨by omega, hb⟩]
      have htd : (tB s).data.toList = Lib.decDigits n := by
        rw [ht, ByteArray.data_extract, Array.toList_extract, ← hi2]
        simp only [List.extract_eq_take_drop, List.drop_succ_cons, List.drop_zero]
        rw [List.take_of_length_le (by omega)]
      have hts : (tB s).size = (Lib.decDigits n).length := by rw [size_data, htd]
      unfold readV
      rw [if_pos ⟨by omega, by omega⟩, htd, parse_dec n (by omega)]
      simp only [finV]
      unfold endV
      simp only [if_pos (show (tB s).size < s.size by omega)]
      rw [if_pos hi]
    · obtain ⟨n, rfl⟩ : ∃ n : Nat, v = (n : Int) := ⟨v.toNat, by omega⟩
      have hi2 := hi
      rw [itoa_pos] at hi2
      have hp := dec_pos n
      have hl6 := dec_len2 5 n (by omega)
      have hsz : s.size = (Lib.decDigits n).length := by rw [size_data, ← hi2]
      have ht : tB s = s := by
        unfold tB
        rw [if_neg]
        rintro ⟨_, hb⟩
        cases hd : Lib.decDigits n with
        | nil => rw [hd] at hp; simp at hp
        | cons c r =>
          have hc := dec_range n c (by rw [hd]; simp)
          rw [hd] at hi2
          have := bt_head hi2.symm
          omega
      rw [ht]
      unfold readV
      rw [if_pos ⟨by omega, by omega⟩, ← hi2, parse_dec n (by omega)]
      simp only [finV]
      unfold endV
      simp only [if_neg (show ¬ s.size < s.size by omega)]
      rw [if_pos hi]
  · have hno : ∀ v : Int, -999999 ≤ v ∧ v ≤ 999999 → Lib.itoa v ≠ s.data.toList := fun v hv hi => hA ⟨v, hv, hi⟩
    rw [pi_no s hno]
    unfold readV
    by_cases h : 1 ≤ (tB s).size ∧ (tB s).size ≤ 6
    · rw [if_pos h]
      cases hp : Lib.parseUint10 0 (tB s).data.toList with
      | ok n =>
        have hb := parse_bound _ _ _ hp
        have hl : (tB s).data.toList.length = (tB s).size := (size_data _).symm
        have h6 : 10 ^ (tB s).data.toList.length ≤ 10 ^ 6 := Nat.pow_le_pow_right (by omega) (by omega)
        simp only [finV]
        unfold endV
        rw [if_neg (hno _ (by split <;> omega))]
      | _ => rfl
    · rw [if_neg h]

/-! ### what strings.Cut leaves -/
theorem while_any (b : UInt8) : ∀ l : List UInt8, (l.takeWhile (fun x => x != b)).any (fun x => x == b) = false := by
  intro l
  induction l with
  | nil => rfl
  | cons x l ih =>
    rw [List.takeWhile_cons]
    by_cases hx : x != b
    · rw [if_pos hx, List.any_cons, ih]
      have : (x == b) = false := by simpa using hx
      simp [this]
    · rw [if_neg hx]; rfl
theorem cut_while (b : UInt8) : ∀ l : List UInt8, (if 0 ≤ Lib.indexByte l b then l.take (Lib.indexByte l b).toNat else l) = l.takeWhile (fun x => x != b) := by
  intro l
  induction l with
  | nil => rfl
  | cons x l ih =>
    have hg := Lib.indexByte_ge l b
    rw [List.takeWhile_cons]
    simp only [Lib.indexByte]
    by_cases hx : x == b
    · have : (x != b) = false := by simp [bne, hx]
      simp [hx, this]
    · have h2 : (x != b) = true := by simp [bne, hx]
      simp only [hx, Bool.false_eq_true, if_false, h2, if_true]
      by_cases h1 : Lib.indexByte l b == -1
      · have h3 := eq_of_beq h1
        rw [if_pos h1, if_neg (by omega), ← ih, if_neg (by omega)]
      · have h3 : Lib.indexByte l b ≠ -1 := fun e => h1 (by simp [e])
        rw [if_neg h1, if_pos (by omega), ← ih, if_pos (by omega), show (Lib.indexByte l b + 1).toNat = (Lib.indexByte l b).toNat + 1 by omega, List.take_succ_cons]
theorem cut1 (l : List UInt8) : (Lib.cut l [35]).1 = l.takeWhile (fun x => x != 35) := by
  rw [← cut_while]
  unfold Lib.cut
  rw [Lib.index_one]
  split <;> rfl
def cutB (s : ByteArray) : ByteArray := ⟨(Lib.cut s.data.toList [35]).1.toArray⟩
theorem cutB_data (s : ByteArray) : (cutB s).data.toList = s.data.toList.takeWhile (fun x => x != 35) := by
  unfold cutB; rw [cut1]
theorem cutB_size (s : ByteArray) : (cutB s).size ≤ s.size := by
  have h1 : (cutB s).size = (cutB s).data.toList.length := by rw [Array.length_toList]; rfl
  have h2 : s.size = s.data.toList.length := by rw [Array.length_toList]; rfl
  have := (List.takeWhile_sublist (l := s.data.toList) (fun x => x != 35)).length_le
  rw [h1, h2, cutB_data]; exact this
theorem toList_size {a b : ByteArray} (h : a.toList = b.toList) : a.size = b.size := by
  rw [ByteArray.toList_eq a, ByteArray.toList_eq b] at h
  have h1 : a.size = a.data.toList.length := by rw [Array.length_toList]; rfl
  have h2 : b.size = b.data.toList.length := by rw [Array.length_toList]; rfl
  rw [h1, h2, h]
theorem ac_val (s : ByteArray) : acV (cutB s) (numB (csum (cutB s))) = if (cutB s).size ≤ 4000 ∧ (sealB (cutB s)).size ≤ 4000 then (sealB (cutB s), true) else (⟨#[]⟩, false) := by
  have hv : decide (0 ≤ Lib.indexByte (cutB s).data.toList 35) = false := by rw [index_any, cutB_data]; exact while_any 35 _
  unfold acV
  by_cases h : (cutB s).size ≤ 4000 ∧ (sealB (cutB s)).size ≤ 4000
  · rw [if_pos h, if_pos ⟨h.1, hv, h.2⟩]; rfl
  · rw [if_neg h, if_neg (fun hh => h ⟨hh.1, hh.2.2⟩)]

/-! ### AppendChecksum -/
theorem ac_spec_ev (s : ByteArray) (hs : s.size ≤ 1048576) : Ev (fun k => spec_AppendChecksum.f k s) (acV s (numB (csum s))) := by
  unfold spec_AppendChecksum.f
  have hsz := seal_size s
  have hu : ((s ++ (⟨#[35]⟩ : ByteArray)) ++ numB (csum s)).size = (sealB s).size := rfl
  by_cases h1 : (s.size : Int) > 4000
  · exact ev_pos h1 (ev_now (by unfold acV; rw [if_neg (fun hh => by have := hh.1; omega)]))
  · have h35 : Ev (fun k => spec_l1Stands.f k s 35) (hasB s 35) := stands_ev s 35 hs
    refine ev_neg h1 (ev_bind h35 ?_)
    by_cases hv : hasB s 35 = true
    · refine ev_pos hv (ev_now ?_)
      unfold acV
      rw [if_neg (fun hh => by have h2 := hh.2.1; unfold hasB at hv; rw [hv] at h2; exact absurd h2 (by simp))]
    · have hv' : decide (0 ≤ Lib.indexByte s.data.toList 35) = false := by unfold hasB at hv; simpa using hv
      refine ev_neg hv (ev_bind (seal_ev s (by omega)) ?_)
      by_cases h4 : ((sealB s).size : Int) > 4000
      · refine ev_pos h4 (ev_now ?_)
        unfold acV
        rw [if_neg (fun hh => by have := hh.2.2; rw [hu] at this; omega)]
      · refine ev_neg h4 (ev_bind (seal_ev s (by omega)) (ev_now ?_))
        unfold acV
        rw [if_pos ⟨by omega, hv', by rw [hu]; omega⟩]; rfl

/-! ### one changed byte shows -/
theorem step_eq {h c : Int} (hc : 0 ≤ c ∧ c ≤ 255) (h0 : 0 ≤ h) (h1 : h ≤ 999978) : sumStep h c = (41 * h + c + 1) % 999979 := by
  unfold sumStep
  rw [wrap_of (x := 41 * h) (by omega) (by omega), wrap_of (x := c) (by omega) (by omega), wrap_of (x := 41 * h + c) (by omega) (by omega), wrap_of (x := 41 * h + c + 1) (by omega) (by omega)]
  rw [Int.tmod_eq_emod_of_nonneg (by omega)]
theorem fold_inj : ∀ (suf : List Int) (h g : Int), (∀ c ∈ suf, 0 ≤ c ∧ c ≤ 255) → 0 ≤ h → h ≤ 999978 → 0 ≤ g → g ≤ 999978 → suf.foldl sumStep h = suf.foldl sumStep g → h = g := by
  intro suf
  induction suf with
  | nil => intro h g _ _ _ _ _ e; exact e
  | cons c suf ih =>
    intro h g hc h0 h1 g0 g1 e
    have hcc := hc c (by simp)
    rw [List.foldl_cons, List.foldl_cons] at e
    have e1 := step_eq hcc h0 h1
    have e2 := step_eq hcc g0 g1
    have := ih _ _ (fun x hx => hc x (by simp [hx])) (by rw [e1]; omega) (by rw [e1]; omega) (by rw [e2]; omega) (by rw [e2]; omega) e
    rw [e1, e2] at this
    omega
def csL (l : List UInt8) : Int := (l.map (fun b => (b.toNat : Int))).foldl sumStep 7
theorem fold_set : ∀ (l : List UInt8) (k : Nat) (c : UInt8) (h : Int), (hk : k < l.length) → l[k] ≠ c → 0 ≤ h → h ≤ 999978 → ((l.set k c).map (fun b => (b.toNat : Int))).foldl sumStep h ≠ (l.map (fun b => (b.toNat : Int))).foldl sumStep h := by
  intro l
  induction l with
  | nil => intro k c h hk; simp at hk
  | cons x l ih =>
    intro k c h hk hne h0 h1 e
    have hx := x.toNat_lt
    have hc := c.toNat_lt
    have e1 := step_eq (h := h) (c := (x.toNat : Int)) ⟨by omega, by omega⟩ h0 h1
    have e2 := step_eq (h := h) (c := (c.toNat : Int)) ⟨by omega, by omega⟩ h0 h1
    cases k with
    | zero =>
      rw [List.set_cons_zero, List.map_cons, List.map_cons, List.foldl_cons, List.foldl_cons] at e
      have := fold_inj _ _ _ (fun z hz => by
        obtain ⟨b, _, rfl⟩ := List.mem_map.1 hz
        have := b.toNat_lt
        omega) (by rw [e2]; omega) (by rw [e2]; omega) (by rw [e1]; omega) (by rw [e1]; omega) e
      rw [e1, e2] at this
      exact hne (UInt8.toNat_inj.1 (by simp only [List.getElem_cons_zero]; omega))
    | succ k =>
      rw [List.set_cons_succ, List.map_cons, List.map_cons, List.foldl_cons, List.foldl_cons] at e
      exact ih k c _ (by simpa using hk) (by simpa using hne) (by rw [e1]; omega) (by rw [e1]; omega) e
theorem cs_set {l : List UInt8} {k : Nat} {c : UInt8} (hk : k < l.length) (hne : l[k] ≠ c) : csL (l.set k c) ≠ csL l := fold_set l k c 7 hk hne (by omega) (by omega)
theorem split_uniq : ∀ (a b c d : List UInt8), (35 : UInt8) ∉ a → (35 : UInt8) ∉ c → a ++ 35 :: b = c ++ 35 :: d → a = c ∧ b = d := by
  intro a
  induction a with
  | nil =>
    intro b c d _ hc e
    cases c with
    | nil => simpa using e
    | cons y c =>
      rw [List.nil_append, List.cons_append] at e
      injection e with e1 _
      exact absurd (by simp [e1]) hc
  | cons x a ih =>
    intro b c d ha hc e
    cases c with
    | nil =>
      rw [List.nil_append, List.cons_append] at e
      injection e with e1 _
      exact absurd (by simp [e1]) ha
    | cons y c =>
      rw [List.cons_append, List.cons_append] at e
      injection e with e1 e2
      obtain ⟨h1, h2⟩ := ih b c d (fun h => ha (by simp [h])) (fun h => hc (by simp [h])) e2
      exact ⟨by rw [e1, h1], h2⟩
theorem first35 : ∀ (l : List UInt8), (35 : UInt8) ∈ l → ∃ a b, l = a ++ 35 :: b ∧ (35 : UInt8) ∉ a := by
  intro l
  induction l with
  | nil => intro h; cases h
  | cons x l ih =>
    intro h
    by_cases hx : x = 35
    · exact ⟨[], l, by simp [hx], by simp⟩
    · obtain ⟨a, b, h1, h2⟩ := ih (by rcases List.mem_cons.1 h with h | h; exact absurd h.symm hx; exact h)
      exact ⟨x :: a, b, by simp [h1], fun h => by rcases List.mem_cons.1 h with h | h; exact hx h.symm; exact h2 h⟩
/-- D: how a checksum is written: no 35 in it, and one to one where it stands. -/
theorem one_byte (D : Int → List UInt8) (h35 : ∀ l, (35 : UInt8) ∉ D (csL l)) (hinj : ∀ l m, D (csL l) = D (csL m) → csL l = csL m) (L T : List UInt8) (k : Nat) (c : UInt8) (hL : (35 : UInt8) ∉ L) (hT : (35 : UInt8) ∉ T) (hk : k < (L ++ 35 :: D (csL L)).length) (hc : (L ++ 35 :: D (csL L))[k] ≠ c) :
    T ++ 35 :: D (csL T) ≠ (L ++ 35 :: D (csL L)).set k c := by
  intro e
  have hT2 := h35 T
  have hL2 := h35 L
  rw [List.set_append] at e
  by_cases h1 : k < L.length
  · rw [if_pos h1] at e
    rw [List.getElem_append_left h1] at hc
    by_cases h3 : (35 : UInt8) ∈ L.set k c
    · obtain ⟨a, b, h4, h5⟩ := first35 _ h3
      rw [h4, List.append_assoc, List.cons_append] at e
      obtain ⟨_, e2⟩ := split_uniq _ _ _ _ hT h5 e
      exact hT2 (by rw [e2]; simp)
    · obtain ⟨e1, e2⟩ := split_uniq _ _ _ _ hT h3 e
      have := hinj _ _ e2
      rw [e1] at this
      exact cs_set h1 hc this
  · rw [if_neg h1] at e
    rw [List.getElem_append_right (by omega)] at hc
    cases hj : k - L.length with
    | zero =>
      rw [hj, List.set_cons_zero] at e
      have hc2 : (35 : UInt8) ≠ c := by simpa [hj] using hc
      have h6 : (35 : UInt8) ∈ L ++ c :: D (csL L) := by rw [← e]; simp
      rcases List.mem_append.1 h6 with h6 | h6
      · exact hL h6
      · rcases List.mem_cons.1 h6 with h6 | h6
        · exact hc2 h6
        · exact hL2 h6
    | succ j =>
      rw [hj, List.set_cons_succ] at e
      obtain ⟨e1, e2⟩ := split_uniq _ _ _ _ hT hL e
      have hjl : j < (D (csL L)).length := by simp at hk; omega
      rw [e1] at e2
      have hne : (D (csL L))[j] ≠ c := by simpa [hj] using hc
      have : ((D (csL L)).set j c)[j]'(by simpa using hjl) = (D (csL L))[j] := by simp only [← e2]
      rw [List.getElem_set_self] at this
      exact hne this.symm

/-! ### the drawing functions -/
theorem u64_eq (n : Int) : IntKind.u64.wrap n = n % 18446744073709551616 := rfl
theorem and_ok (Y : Int) : 0 ≤ wrap64 (Go.bits .and .u64 (IntKind.u64.wrap Y / 1099511627776) 255) ∧ wrap64 (Go.bits .and .u64 (IntKind.u64.wrap Y / 1099511627776) 255) ≤ 255 := by
  rw [u64_eq]
  obtain ⟨m, hm⟩ : ∃ m : Nat, (Y % 18446744073709551616) / 1099511627776 = (m : Int) := ⟨((Y % 18446744073709551616) / 1099511627776).toNat, by omega⟩
  have hlt : m < 18446744073709551616 := by omega
  rw [hm, show (255 : Int) = ((255 : Nat) : Int) from rfl, Go.bits_and_u64_nat m 255 hlt (by omega)]
  have h2 : m &&& 255 ≤ 255 := Nat.and_le_right
  rw [wrap_of (by omega) (by omega)]
  omega
def byteL (l : List Int) : Prop := l.length ≤ 65536 ∧ ∀ x ∈ l, 0 ≤ x ∧ x ≤ 255
theorem rd_byte {l : List Int} (hl : byteL l) (i : Int) (h0 : 0 ≤ i) (h1 : i < (l.length : Int)) : 0 ≤ rd l i ∧ rd l i ≤ 255 := by
  have hi : i.toNat < l.length := by omega
  have e : rd l i = l[i.toNat] := by simp [rd, List.getD_eq_getElem?_getD, List.getElem?_eq_getElem hi]
  rw [e]
  exact hl.2 _ (List.getElem_mem hi)
theorem next_ok {l : List Int} (hl : byteL l) (s1 s2 : Int) (h0 : 0 ≤ s1) (h1 : s1 ≤ 1000000) : ∃ b s2', spec_l1Cur_next.f l s1 s2 = some (b, s1 + 1, s2') ∧ 0 ≤ b ∧ b ≤ 255 := by
  unfold spec_l1Cur_next.f
  rw [wrap_of (x := s1 + 1) (by omega) (by omega)]
  by_cases h : s1 < (l.length : Int)
  · have hr := rd_byte hl s1 h0 h
    rw [if_pos h, if_pos h0]
    by_cases h2 : s1 + 1 ≤ (l.length : Int)
    · rw [if_pos h2]
      exact ⟨_, _, rfl, by rw [wrap_of (by omega) (by omega)]; exact hr.1, by rw [wrap_of (by omega) (by omega)]; exact hr.2⟩
    · rw [if_neg h2]
      exact ⟨_, _, rfl, (and_ok _).1, (and_ok _).2⟩
  · rw [if_neg h]
    by_cases h2 : s1 + 1 ≤ (l.length : Int)
    · rw [if_pos h2]
      exact ⟨_, _, rfl, by omega, by omega⟩
    · rw [if_neg h2]
      exact ⟨_, _, rfl, (and_ok _).1, (and_ok _).2⟩
theorem pick_ok {l : List Int} (hl : byteL l) (s1 s2 n : Int) (h0 : 0 ≤ s1) (h1 : s1 ≤ 1000000) (hn : 2 ≤ n) (hn2 : n ≤ 200) : ∃ b s2', spec_l1Cur_pick.f l s1 s2 n = some (b, s1 + 1, s2') ∧ 0 ≤ b ∧ b < n := by
  obtain ⟨b, s2', hb, hb0, hb1⟩ := next_ok hl s1 s2 h0 h1
  unfold spec_l1Cur_pick.f
  rw [if_neg (by omega), hb]
  simp only [Option.bind_some]
  rw [if_neg (by omega), if_neg (by omega)]
  refine ⟨_, _, rfl, ?_, ?_⟩
  · rw [Int.tmod_eq_emod_of_nonneg hb0]; exact Int.emod_nonneg _ (by omega)
  · rw [Int.tmod_eq_emod_of_nonneg hb0]; exact Int.emod_lt_of_pos _ (by omega)

/-! ### the drawing functions that draw orders -/
theorem pick_any {l : List Int} (hl : byteL l) (s1 s2 n : Int) (h0 : 0 ≤ s1) (h1 : s1 ≤ 1000000) (hn : 1 ≤ n) (hn2 : n ≤ 200) : ∃ b s1' s2', spec_l1Cur_pick.f l s1 s2 n = some (b, s1', s2') ∧ 0 ≤ b ∧ b < n ∧ s1 ≤ s1' ∧ s1' ≤ s1 + 1 := by
  by_cases h : n = 1
  · subst h
    exact ⟨0, s1, s2, by unfold spec_l1Cur_pick.f; rw [if_pos (by omega)], by omega, by omega, by omega, by omega⟩
  · obtain ⟨b, s2', hb, hb0, hb1⟩ := pick_ok hl s1 s2 n h0 h1 (by omega) hn2
    exact ⟨b, s1 + 1, s2', hb, hb0, hb1, by omega, by omega⟩
theorem among_ok {l : List Int} (hl : byteL l) (s1 s2 : Int) (xs : List Int) (h0 : 0 ≤ s1) (h1 : s1 ≤ 1000000) (hn : 1 ≤ xs.length) (hn2 : xs.length ≤ 200) : ∃ x s1' s2', spec_l1Cur_among.f l s1 s2 xs = some (x, s1', s2') ∧ x ∈ xs ∧ s1 ≤ s1' ∧ s1' ≤ s1 + 1 := by
  obtain ⟨b, s1', s2', hb, hb0, hb1, hs, hs'⟩ := pick_any hl s1 s2 (xs.length : Int) h0 h1 (by omega) (by omega)
  unfold spec_l1Cur_among.f
  rw [hb]
  simp only [Option.bind_some]
  rw [if_pos hb0, if_pos hb1]
  refine ⟨_, _, _, rfl, ?_, hs, hs'⟩
  have hi : b.toNat < xs.length := by omega
  have e : rd xs b = xs[b.toNat] := by simp [rd, List.getD_eq_getElem?_getD, List.getElem?_eq_getElem hi]
  rw [e]
  exact List.getElem_mem hi
/-! ### further drawing functions -/
theorem pick_all {l : List Int} (hl : byteL l) (s1 s2 n : Int) (h0 : 0 ≤ s1) (h1 : s1 ≤ 900000) (hn : 1 ≤ n) (hn2 : n ≤ 1000000) : ∃ b s1' s2', spec_l1Cur_pick.f l s1 s2 n = some (b, s1', s2') ∧ 0 ≤ b ∧ b < n ∧ s1 ≤ s1' ∧ s1' ≤ s1 + 2 := by
  by_cases h : n ≤ 200
  · obtain ⟨b, s1', s2', hb, h2, h3, h4, h5⟩ := pick_any hl s1 s2 n h0 (by omega) hn h
    exact ⟨b, s1', s2', hb, h2, h3, h4, by omega⟩
  · obtain ⟨b, s2', hb, hb0, hb1⟩ := next_ok hl s1 s2 h0 (by omega)
    obtain ⟨c, s3', hc, hc0, hc1⟩ := next_ok hl (s1 + 1) s2' (by omega) (by omega)
    unfold spec_l1Cur_pick.f
    rw [if_neg (by omega), hb]
    simp only [Option.bind_some]
    rw [if_pos (by omega), hc]
    simp only [Option.bind_some]
    rw [if_neg (by omega), wrap_of (x := b * 256) (by omega) (by omega), wrap_of (by omega) (by omega)]
    refine ⟨_, _, _, rfl, ?_, ?_, by omega, by omega⟩
    · rw [Int.tmod_eq_emod_of_nonneg (by omega)]; exact Int.emod_nonneg _ (by omega)
    · rw [Int.tmod_eq_emod_of_nonneg (by omega)]; exact Int.emod_lt_of_pos _ (by omega)
theorem one_any {l : List Int} (hl : byteL l) (s1 s2 n : Int) (h0 : 0 ≤ s1) (h1 : s1 ≤ 900000) (hn : 1 ≤ n) (hn2 : n ≤ 200) : ∃ b s1' s2', spec_l1Cur_one.f l s1 s2 n = some (b, s1', s2') ∧ s1 ≤ s1' ∧ s1' ≤ s1 + 1 := by
  obtain ⟨b, s3, s4, hb, _, _, hs, hs'⟩ := pick_any hl s1 s2 n h0 (by omega) hn hn2
  exact ⟨b == 0, s3, s4, by unfold spec_l1Cur_one.f; rw [hb]; rfl, hs, hs'⟩

/-! ### what the law draws -/
theorem of_ok {l : List Int} (hl : byteL l) (s1 s2 : Int) (xs : List ByteArray) (h0 : 0 ≤ s1) (h1 : s1 ≤ 1000000) (hn : 1 ≤ xs.length) (hn2 : xs.length ≤ 200) : ∃ x s1' s2', spec_l1Cur_of.f l s1 s2 xs = some (x, s1', s2') ∧ x ∈ xs := by
  obtain ⟨b, s1', s2', hb, hb0, hb1, hs, hs'⟩ := pick_any hl s1 s2 (xs.length : Int) h0 h1 (by omega) (by omega)
  unfold spec_l1Cur_of.f
  rw [hb]
  simp only [Option.bind_some]
  rw [if_pos hb0, if_pos hb1]
  refine ⟨_, _, _, rfl, ?_⟩
  have hi : b.toNat < xs.length := by omega
  have e : rdOf ByteArray.empty xs b = xs[b.toNat] := by simp [rdOf, List.getD_eq_getElem?_getD, List.getElem?_eq_getElem hi]
  rw [e]
  exact List.getElem_mem hi
theorem itoa_len (v : Int) : (Lib.itoa v).length ≤ v.natAbs + 2 := by
  by_cases h0 : v < 0
  · obtain ⟨n, rfl⟩ : ∃ n : Nat, v = -(n : Int) := ⟨v.natAbs, by omega⟩
    rw [itoa_neg (by omega)]
    have := decDigits_len n
    simp; omega
  · obtain ⟨n, rfl⟩ : ∃ n : Nat, v = (n : Int) := ⟨v.toNat, by omega⟩
    rw [itoa_pos]
    have := decDigits_len n
    simp; omega
theorem drawFI_ok {l : List Int} (hl : byteL l) : ∃ n, spec_DrawFormatInt.f l = some n ∧ -1000000 ≤ n ∧ n ≤ 1000000 := by
  obtain ⟨p, s3, s4, hp, hp0, hp1, hs, hs'⟩ := pick_all hl 0 0 1000 (by omega) (by omega) (by omega) (by omega)
  obtain ⟨y, s5, s6, hy, hm, _, _⟩ := among_ok hl s3 s4 [0, 1, (-1), 10, 999999, (-999999), 1000000, (-1000000), wrap64 (p - 500)] (by omega) (by omega) (by simp) (by simp)
  refine ⟨y, ?_, ?_⟩
  · unfold spec_DrawFormatInt.f
    rw [hp]
    simp only [Option.bind_some]
    rw [hy]; rfl
  · rw [wrap_of (by omega) (by omega)] at hm
    simp only [List.mem_cons, List.not_mem_nil, or_false] at hm
    omega
theorem drawPI_ok {l : List Int} (hl : byteL l) : ∃ t, Ev (fun k => spec_DrawParseInt.f k l) t ∧ t.size ≤ 1048576 := by
  obtain ⟨b, s3, s4, hb, hs, hs'⟩ := one_any hl 0 0 2 (by omega) (by omega) (by omega) (by omega)
  cases b with
  | true =>
    obtain ⟨x, s5, s6, hx, hm⟩ := of_ok hl s3 s4 [(⟨#[]⟩ : ByteArray), (⟨#[45]⟩ : ByteArray), (⟨#[45, 48]⟩ : ByteArray), (⟨#[48, 48]⟩ : ByteArray), (⟨#[48, 49]⟩ : ByteArray), (⟨#[45, 45, 49]⟩ : ByteArray), (⟨#[49, 120]⟩ : ByteArray), (⟨#[57, 57, 57, 57, 57, 57]⟩ : ByteArray), (⟨#[49, 48, 48, 48, 48, 48, 48]⟩ : ByteArray), (⟨#[45, 57, 57, 57, 57, 57, 57]⟩ : ByteArray), (⟨#[49, 56, 52, 52, 54, 55, 52, 52, 48, 55, 51, 55, 48, 57, 53, 53, 49, 54, 49, 55]⟩ : ByteArray)] (by omega) (by omega) (by simp) (by simp)
    refine ⟨x, ?_, ?_⟩
    · unfold spec_DrawParseInt.f
      rw [hb]
      refine ev_let (ev_pos rfl ?_)
      simp only [hx]
      exact ev_let (ev_now rfl)
    · simp only [List.mem_cons, List.not_mem_nil, or_false] at hm
      rcases hm with rfl | rfl | rfl | rfl | rfl | rfl | rfl | rfl | rfl | rfl | rfl <;> decide
  | false =>
    obtain ⟨p, s5, s6, hp, hp0, hp1, _, _⟩ := pick_all hl s3 s4 2000 (by omega) (by omega) (by omega) (by omega)
    have hw : wrap64 (p - 1000) = p - 1000 := wrap_of (by omega) (by omega)
    refine ⟨(⟨(Lib.itoa (p - 1000)).toArray⟩ : ByteArray), ?_, ?_⟩
    · unfold spec_DrawParseInt.f
      rw [hb]
      refine ev_let (ev_neg (by simp) ?_)
      simp only [hp]
      refine ev_let ?_
      rw [hw]
      exact ev_bind (itoa_ev (p - 1000) (by omega)) (ev_now rfl)
    · have := itoa_len (p - 1000)
      show (Lib.itoa (p - 1000)).toArray.size ≤ _
      simp only [List.size_toArray]; omega
theorem any1_ok {l : List Int} (hl : byteL l) (s1 s2 : Int) (h0 : 0 ≤ s1) (h1 : s1 ≤ 1000000) : ∃ x s1' s2', spec_l1Cur_any1.f l s1 s2 = some (x, s1', s2') ∧ x.size ≤ 20 := by
  obtain ⟨x, s5, s6, hx, hm⟩ := of_ok hl s1 s2 [(⟨#[]⟩ : ByteArray), (⟨#[97]⟩ : ByteArray), (⟨#[97, 44, 98]⟩ : ByteArray), (⟨#[115, 111, 109, 101, 32, 119, 111, 114, 100, 115]⟩ : ByteArray), (⟨#[120, 35, 121]⟩ : ByteArray), (⟨#[45, 49, 50]⟩ : ByteArray), (⟨#[0, 255]⟩ : ByteArray), (⟨#[44, 44]⟩ : ByteArray), (⟨#[48]⟩ : ByteArray)] (by omega) (by omega) (by simp) (by simp)
  refine ⟨x, s5, s6, ?_, ?_⟩
  · unfold spec_l1Cur_any1.f
    rw [hx]; rfl
  · simp only [List.mem_cons, List.not_mem_nil, or_false] at hm
    rcases hm with rfl | rfl | rfl | rfl | rfl | rfl | rfl | rfl | rfl <;> decide
theorem drawAC_ok {l : List Int} (hl : byteL l) : ∃ x, spec_DrawAppendChecksum.f l = some x ∧ x.size ≤ 1048576 := by
  obtain ⟨b, s3, s4, hb, hs, hs'⟩ := one_any hl 0 0 20 (by omega) (by omega) (by omega) (by omega)
  cases b with
  | true =>
    obtain ⟨p, s5, s6, hp, hp0, hp1, _, _⟩ := pick_any hl s3 s4 10 (by omega) (by omega) (by omega) (by omega)
    have hw : wrap64 (3990 + p) = 3990 + p := wrap_of (by omega) (by omega)
    refine ⟨strOfNums (List.replicate (3990 + p).toNat 0), ?_, ?_⟩
    · unfold spec_DrawAppendChecksum.f
      rw [hb]
      simp only [Option.bind_some]
      rw [if_pos trivial, hp]
      simp only [Option.bind_some, hw]
      rw [if_pos (by omega), if_pos (by omega)]
    · rw [str_size, List.length_replicate]; omega
  | false =>
    obtain ⟨x, s5, s6, hx, hx2⟩ := any1_ok hl s3 s4 (by omega) (by omega)
    refine ⟨x, ?_, by omega⟩
    unfold spec_DrawAppendChecksum.f
    rw [hb]
    simp only [Option.bind_some]
    rw [if_neg (by simp), hx]; rfl
theorem vat_ok {l : List Int} (hl : byteL l) (i : Int) (h0 : 0 ≤ i) (h1 : i ≤ 100) : ∃ v, laws_vAt.f l i = some v ∧ 0 ≤ v ∧ v ≤ 255 := by
  unfold laws_vAt.f
  have hlen := hl.1
  by_cases h : i < (l.length : Int)
  · have hr := rd_byte hl i h0 h
    rw [if_pos h, if_pos h0, wrap_of (by omega) (by omega)]
    exact ⟨_, rfl, hr⟩
  · rw [if_neg h, wrap_of (x := i * 7) (by omega) (by omega), wrap_of (by omega) (by omega), Int.tmod_eq_emod_of_nonneg (by omega)]
    exact ⟨_, rfl, by omega, by omega⟩
/-! ### FormatInt -/
theorem spec_fi_ev (a : Int) : Ev (fun k => spec_FormatInt.f k a) (fiR a) := by
  unfold spec_FormatInt.f
  have hin : spec_l1In.f a (-999999) 999999 = some (decide (-999999 ≤ a ∧ a ≤ 999999)) := by
    unfold spec_l1In.f
    by_cases h : a ≥ -999999
    · rw [if_pos h]; congr 1; simp; omega
    · rw [if_neg h]; congr 1; simp; omega
  rw [hin]
  refine ev_bind (a := decide (-999999 ≤ a ∧ a ≤ 999999)) (ev_now rfl) ?_
  unfold fiR
  by_cases h : -999999 ≤ a ∧ a ≤ 999999
  · rw [if_pos h]
    exact ev_pos (decide_eq_true h) (ev_bind (itoa_ev a h) (ev_now rfl))
  · rw [if_neg h]
    exact ev_neg (by simpa using h) (ev_now rfl)
theorem spec_pi_ev (s : ByteArray) : Ev (fun k => spec_ParseInt.f k s) (piV s) := by
  unfold spec_ParseInt.f
  exact ev_bind (read_ev s) (ev_now (by rw [read_val]))
/-! ### the sealed text -/
theorem csL_range (l : List UInt8) : 0 ≤ csL l ∧ csL l ≤ 999978 := by
  have hc : ∀ c ∈ l.map (fun b => (b.toNat : Int)), 0 ≤ c ∧ c ≤ 255 := fun c hc => by
    obtain ⟨b, _, rfl⟩ := List.mem_map.1 hc
    have := b.toNat_lt
    omega
  exact ⟨(fold_range _ _ hc (by omega) (by omega)).1, fold_lt _ _ hc (by omega) (by omega)⟩
theorem csum_csL (s : ByteArray) : csum s = csL s.data.toList := rfl
theorem itoa_no35 (l : List UInt8) : (35 : UInt8) ∉ Lib.itoa (csL l) := by
  have h := csL_range l
  obtain ⟨n, hn⟩ : ∃ n : Nat, csL l = (n : Int) := ⟨(csL l).toNat, by omega⟩
  rw [hn, itoa_pos]
  intro h35
  have := dec_range n _ h35
  have e : (35 : UInt8).toNat = 35 := rfl
  omega
theorem itoa_inj (l m : List UInt8) (h : Lib.itoa (csL l) = Lib.itoa (csL m)) : csL l = csL m := by
  have h1 := csL_range l
  have h2 := csL_range m
  have e1 := atoi_itoa (csL l) (by omega)
  have e2 := atoi_itoa (csL m) (by omega)
  rw [h, e2] at e1
  injection e1 with e1
  exact e1.symm
theorem seal_data (x : ByteArray) : (sealB x).data.toList = x.data.toList ++ 35 :: Lib.itoa (csL x.data.toList) := by
  unfold sealB numB
  rw [csum_csL]
  simp [ByteArray.data_append]
theorem while_app : ∀ (a b : List UInt8), (35 : UInt8) ∉ a → (a ++ 35 :: b).takeWhile (fun x => x != 35) = a := by
  intro a
  induction a with
  | nil => intro b _; rfl
  | cons x a ih =>
    intro b h
    have hx : (x != 35) = true := by
      have : x ≠ 35 := fun e => h (by simp [e])
      simpa using this
    rw [List.cons_append, List.takeWhile_cons, if_pos hx, ih b (fun hh => h (by simp [hh]))]
theorem ac_true {x : ByteArray} (h : (acV x (numB (csum x))).2 = true) : acV x (numB (csum x)) = (sealB x, true) ∧ x.size ≤ 4000 ∧ (sealB x).size ≤ 4000 ∧ (35 : UInt8) ∉ x.data.toList := by
  have hu : acV x (numB (csum x)) = if x.size ≤ 4000 ∧ decide (0 ≤ Lib.indexByte x.data.toList 35) = false ∧ (sealB x).size ≤ 4000 then (sealB x, true) else (⟨#[]⟩, false) := rfl
  rw [hu] at h ⊢
  by_cases hc : x.size ≤ 4000 ∧ decide (0 ≤ Lib.indexByte x.data.toList 35) = false ∧ (sealB x).size ≤ 4000
  · rw [if_pos hc]
    refine ⟨rfl, hc.1, hc.2.2, fun hm => ?_⟩
    have h2 := hc.2.1
    rw [index_any] at h2
    have : x.data.toList.any (fun y => y == 35) = true := List.any_eq_true.2 ⟨35, hm, by simp⟩
    rw [this] at h2; cases h2
  · rw [if_neg hc] at h; cases h
theorem ac_false {x : ByteArray} (h : (acV x (numB (csum x))).2 = false) : (acV x (numB (csum x))).1 = ⟨#[]⟩ := by
  have hu : acV x (numB (csum x)) = if x.size ≤ 4000 ∧ decide (0 ≤ Lib.indexByte x.data.toList 35) = false ∧ (sealB x).size ≤ 4000 then (sealB x, true) else (⟨#[]⟩, false) := rfl
  rw [hu] at h ⊢
  split at h
  · cases h
  · rename_i hc; rw [if_neg hc]
theorem cut_seal {x : ByteArray} (h : (35 : UInt8) ∉ x.data.toList) : cutB (sealB x) = x := by
  apply Go.WideShapes.bytes_inj
  rw [cutB_data, seal_data, while_app _ _ h]
theorem ac_mk (x : ByteArray) (hx : x.size ≤ 140737488351232) : AC x (acV x (numB (csum x))).1 (acV x (numB (csum x))).2 := by
  obtain ⟨K, h⟩ := impl_csum_ev x hx
  have hz := num_size x
  exact ⟨K, csum x, numB (csum x), h K (Nat.le_refl _), csum_range x, rfl, by omega, rfl⟩
theorem vc_mk (s : ByteArray) (hs : s.size ≤ 1048576) : VC s (vcV s (cutB s) (numB (csum (cutB s)))).1 (vcV s (cutB s) (numB (csum (cutB s)))).2 := by
  have hc := cutB_size s
  obtain ⟨K, h⟩ := impl_csum_ev (cutB s) (by omega)
  have hz := num_size (cutB s)
  exact ⟨hs, K, cutB s, csum (cutB s), numB (csum (cutB s)), rfl, h K (Nat.le_refl _), csum_range _, rfl, by omega, rfl⟩
theorem vc_seal {x : ByteArray} (h : (acV x (numB (csum x))).2 = true) : vcV (sealB x) (cutB (sealB x)) (numB (csum (cutB (sealB x)))) = (x, true) := by
  obtain ⟨h1, h2, h3, h4⟩ := ac_true h
  rw [cut_seal h4]
  unfold vcV
  rw [h1, if_pos ⟨rfl, rfl⟩]
theorem str_set (y : ByteArray) (k : Nat) (c : UInt8) : (strOfNums ((bytesOf y).set k (c.toNat : Int))).data.toList = y.data.toList.set k c := by
  unfold strOfNums bytesOf
  simp only [List.toList_toArray, List.map_set, List.map_map]
  congr 1
  · have : ((fun n : Int => UInt8.ofNat n.toNat) ∘ fun b : UInt8 => (b.toNat : Int)) = id := by
      funext b
      simp
    rw [this, List.map_id]
  · simp
theorem vc_bad {x : ByteArray} (h : (acV x (numB (csum x))).2 = true) (k : Nat) (c : UInt8) (hk : k < (sealB x).data.toList.length) (hc : (sealB x).data.toList[k] ≠ c) :
    vcV (strOfNums ((bytesOf (sealB x)).set k (c.toNat : Int))) (cutB (strOfNums ((bytesOf (sealB x)).set k (c.toNat : Int)))) (numB (csum (cutB (strOfNums ((bytesOf (sealB x)).set k (c.toNat : Int)))))) = (⟨#[]⟩, false) := by
  obtain ⟨h1, h2, h3, h4⟩ := ac_true h
  obtain ⟨s, hs⟩ : ∃ s, strOfNums ((bytesOf (sealB x)).set k (c.toNat : Int)) = s := ⟨_, rfl⟩
  have hd := str_set (sealB x) k c
  rw [hs] at hd ⊢
  unfold vcV
  rw [if_neg]
  rintro ⟨g1, g2⟩
  rw [ac_val] at g1 g2
  by_cases hq : (cutB s).size ≤ 4000 ∧ (sealB (cutB s)).size ≤ 4000
  · rw [if_pos hq] at g2
    simp only at g2
    rw [ByteArray.toList_eq, ByteArray.toList_eq, hd, seal_data (cutB s)] at g2
    have hT : (35 : UInt8) ∉ (cutB s).data.toList := by
      rw [cutB_data]
      intro hm
      have := while_any 35 s.data.toList
      have h2 : (s.data.toList.takeWhile (fun x => x != 35)).any (fun x => x == 35) = true := List.any_eq_true.2 ⟨35, hm, by simp⟩
      rw [this] at h2; cases h2
    have hse := seal_data x
    have hk2 : k < (x.data.toList ++ 35 :: Lib.itoa (csL x.data.toList)).length := by rw [← hse]; exact hk
    have hc2 : (x.data.toList ++ 35 :: Lib.itoa (csL x.data.toList))[k] ≠ c := by
      intro e
      apply hc
      rw [← e]
      simp only [hse]
    refine one_byte Lib.itoa itoa_no35 itoa_inj x.data.toList (cutB s).data.toList k c h4 hT hk2 hc2 ?_
    rw [g2, hse]
  · rw [if_neg hq] at g1; cases g1
/-! ### the changed byte -/
theorem bits_xor_u8 (a b : Nat) (ha : a < 256) (hb : b < 256) : bits .xor .u8 (a : Int) (b : Int) = ((a ^^^ b : Nat) : Int) := by
  have hx : a ^^^ b < 2 ^ 8 := Nat.xor_lt_two_pow (by omega) (by omega)
  have h1 : (BitVec.ofInt 8 (a : Int)).toNat = a := by
    rw [BitVec.ofInt_natCast, BitVec.toNat_ofNat]; exact Nat.mod_eq_of_lt (by omega)
  have h2 : (BitVec.ofInt 8 (b : Int)).toNat = b := by
    rw [BitVec.ofInt_natCast, BitVec.toNat_ofNat]; exact Nat.mod_eq_of_lt (by omega)
  show IntKind.u8.wrap ((BitVec.ofInt 8 (a : Int) ^^^ BitVec.ofInt 8 (b : Int)).toNat : Int) = _
  rw [BitVec.toNat_xor, h1, h2]
  have hw : ∀ n : Int, IntKind.u8.wrap n = n % 256 := fun n => by simp [IntKind.wrap, IntKind.bits, IntKind.signed]
  rw [hw]
  omega
theorem xor_ne (a b : Nat) (hb : b ≠ 0) : a ^^^ b ≠ a := by
  intro e
  apply hb
  have : a ^^^ (a ^^^ b) = a ^^^ a := by rw [e]
  rw [← Nat.xor_assoc, Nat.xor_self, Nat.zero_xor] at this
  exact this
theorem new_byte {y : ByteArray} {kn : Nat} {v10 : Int} (hk : kn < y.size) (h0 : 0 ≤ v10) (h1 : v10 ≤ 255) : ∃ c : UInt8, bits BinOp.xor IntKind.u8 ((bytesOf y).getD kn 0) (IntKind.u8.wrap (wrap64 (1 + v10.tmod 255))) = (c.toNat : Int) ∧ ∀ h : kn < y.data.toList.length, y.data.toList[kn] ≠ c := by
  have hl : kn < y.data.toList.length := by rw [← size_data]; exact hk
  have e : (bytesOf y).getD kn 0 = ((y.data.toList[kn]).toNat : Int) := by
    unfold bytesOf
    simp only [List.getD_eq_getElem?_getD, List.getElem?_map, List.getElem?_eq_getElem hl]; rfl
  obtain ⟨b, hb⟩ : ∃ b : Nat, v10 % 255 + 1 = (b : Int) := ⟨(v10 % 255 + 1).toNat, by omega⟩
  have hw : ∀ z : Int, IntKind.u8.wrap z = z % 256 := fun z => by simp [IntKind.wrap, IntKind.bits, IntKind.signed]
  have e2 : IntKind.u8.wrap (wrap64 (1 + v10.tmod 255)) = (b : Int) := by
    rw [Int.tmod_eq_emod_of_nonneg h0, wrap_of (by omega) (by omega), hw]; omega
  have ha := (y.data.toList[kn]).toNat_lt
  rw [e, e2, bits_xor_u8 _ _ (by omega) (by omega)]
  have hx : (y.data.toList[kn]).toNat ^^^ b < 2 ^ 8 := Nat.xor_lt_two_pow (by omega) (by omega)
  have hc : (UInt8.ofNat ((y.data.toList[kn]).toNat ^^^ b)).toNat = (y.data.toList[kn]).toNat ^^^ b := by
    rw [UInt8.toNat_ofNat']; exact Nat.mod_eq_of_lt hx
  refine ⟨UInt8.ofNat ((y.data.toList[kn]).toNat ^^^ b), by rw [hc], fun _ he => ?_⟩
  have := congrArg UInt8.toNat he
  rw [hc] at this
  exact xor_ne _ b (by omega) this.symm
theorem FnStrings : laws_FnStrings.Pure := by
  intro l hm ha hw
  by_cases hbig : (l.length : Int) > 65536
  · exact .inl (by unfold laws_vBig.f; rw [decide_eq_true hbig])
  refine .inr ⟨by unfold laws_vBig.f; rw [decide_eq_false hbig], ?_⟩
  have hl : byteL l := ⟨by omega, fun x hx => by have := hw x hx; simp [Lit.wf] at this; exact ⟨this.1, this.2⟩⟩
  obtain ⟨n, hn, n0, n1⟩ := drawFI_ok hl
  obtain ⟨t, ht, ht1⟩ := drawPI_ok hl
  obtain ⟨x, hx, hx1⟩ := drawAC_ok hl
  obtain ⟨v9, hv9, a0, a1⟩ := vat_ok hl 9 (by omega) (by omega)
  obtain ⟨v10, hv10, b0, b1⟩ := vat_ok hl 10 (by omega) (by omega)
  have hsz : (fiR n).1.size ≤ 1048576 := by
    unfold fiR
    by_cases h : -999999 ≤ n ∧ n ≤ 999999
    · rw [if_pos h]
      have := itoa_len n
      show (Lib.itoa n).toArray.size ≤ _
      simp only [List.size_toArray]; omega
    · rw [if_neg h]; decide
  obtain ⟨c, hcc⟩ : ∃ c : UInt8, (acV x (numB (csum x))).2 = true → bits BinOp.xor IntKind.u8 ((bytesOf (acV x (numB (csum x))).1).getD (v9 % ((acV x (numB (csum x))).1.size : Int)).toNat 0) (IntKind.u8.wrap (wrap64 (1 + v10.tmod 255))) = (c.toNat : Int) ∧ ∀ h : (v9 % ((acV x (numB (csum x))).1.size : Int)).toNat < (acV x (numB (csum x))).1.data.toList.length, (acV x (numB (csum x))).1.data.toList[(v9 % ((acV x (numB (csum x))).1.size : Int)).toNat] ≠ c := by
    by_cases h : (acV x (numB (csum x))).2 = true
    · obtain ⟨h1, h2, h3, h4⟩ := ac_true h
      have hy : (acV x (numB (csum x))).1 = sealB x := by rw [h1]
      have hpos := seal_size x
      rw [hy]
      obtain ⟨c, hc1, hc2⟩ := new_byte (y := sealB x) (kn := (v9 % ((sealB x).size : Int)).toNat) (v10 := v10) (by
        have h5 := Int.emod_lt_of_pos v9 (show (0 : Int) < ((sealB x).size : Int) by omega)
        have h6 := Int.emod_nonneg v9 (show ((sealB x).size : Int) ≠ 0 by omega)
        omega) b0 b1
      exact ⟨c, fun _ => ⟨hc1, hc2⟩⟩
    · exact ⟨0, fun hh => absurd hh h⟩
  have f1 := spec_fi_ev n
  have f2 := spec_pi_ev t
  have f3 := ac_spec_ev x hx1
  refine ⟨(fiR n).1, t, x, (acV x (numB (csum x))).1, ⟨#[]⟩, n, (piV t).1, (piV (fiR n).1).1, v9, v10, (c.toNat : Int), (v9 % ((acV x (numB (csum x))).1.size : Int)).toNat, (fiR n).2, (piV t).2, (piV (fiR n).1).2, (acV x (numB (csum x))).2, ?_⟩
  refine ⟨?e1, hn, f1, ht, f2, hx, f3, ⟨by omega, rfl⟩, ⟨ht1, rfl⟩, ac_mk x (by omega), ⟨hsz, rfl⟩, ?hok, ?hno, ?hyes⟩
  case e1 => unfold laws_vBig.f; rw [decide_eq_false hbig]
  case hok =>
    intro h
    by_cases hv : -999999 ≤ n ∧ n ≤ 999999
    · have e : fiR n = (⟨(Lib.itoa n).toArray⟩, true) := by unfold fiR; rw [if_pos hv]
      rw [e]
      have := pi_yes ⟨(Lib.itoa n).toArray⟩ n hv (by simp)
      simp only
      rw [this]
      exact ⟨rfl, rfl⟩
    · have e : fiR n = (⟨#[]⟩, false) := by unfold fiR; rw [if_neg hv]
      rw [e] at h; cases h
  case hno =>
    intro h
    rw [ac_false h, ByteArray.toList_eq]; rfl
  case hyes =>
    intro h
    obtain ⟨hc1, hc2⟩ := hcc h
    obtain ⟨h1, h2, h3, h4⟩ := ac_true h
    have hy : (acV x (numB (csum x))).1 = sealB x := by rw [h1]
    have hpos := seal_size x
    rw [hy] at hc1 hc2 ⊢
    have h5 := Int.emod_lt_of_pos v9 (show (0 : Int) < ((sealB x).size : Int) by omega)
    have h6 := Int.emod_nonneg v9 (show ((sealB x).size : Int) ≠ 0 by omega)
    have hk : (v9 % ((sealB x).size : Int)).toNat < (sealB x).data.toList.length := by rw [← size_data]; omega
    have g1 := vc_mk (sealB x) (by omega)
    rw [vc_seal h] at g1
    have hsz2 : (strOfNums ((bytesOf (sealB x)).set (v9 % ((sealB x).size : Int)).toNat (c.toNat : Int))).size ≤ 1048576 := by
      rw [str_size, List.length_set, bytes_len]; omega
    have g2 := vc_mk _ hsz2
    rw [vc_bad h _ c hk (hc2 hk)] at g2
    exact ⟨g1, g2, hv9, hv10, ⟨a0, a1⟩, ⟨b0, b1⟩, ⟨by omega, h3, by omega⟩, hc1⟩
end Go.Proofs.YtlkddcabjcejdaaDoor.Pure
