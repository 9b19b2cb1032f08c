/- The pure statement of FnExactAppendChecksum: the reference writes the same text and checksum. No condition. -/
import Derived.Test.YtjaplmgbhmgpiaaDoorMFnExactAppendChecksumx1
import Derived.Test.YtjaplmgbhmgpiaaDoorBase
namespace Go.Proofs.YtjaplmgbhmgpiaaDoor.Pure
open Go Go.RowKit Go.Proofs.YtjaplmgbhmgpiaaDoor.MFnExactAppendChecksum Go.Proofs.YtjaplmgbhmgpiaaDoorW.PrintWords Go.Proofs.YtjaplmgbhmgpiaaDoor.Base
set_option linter.unusedVariables false
set_option linter.unusedSimpArgs false
/-! ### spec.l1Num -/
theorem dig_cut (d : Nat) (h : d ≤ 9) : (⟨#[48, 49, 50, 51, 52, 53, 54, 55, 56, 57]⟩ : ByteArray).extract d (d + 1) = ⟨#[UInt8.ofNat (48 + d)]⟩ := by
  have : d = 0 ∨ d = 1 ∨ d = 2 ∨ d = 3 ∨ d = 4 ∨ d = 5 ∨ d = 6 ∨ d = 7 ∨ d = 8 ∨ d = 9 := by omega
  rcases this with rfl | rfl | rfl | rfl | rfl | rfl | rfl | rfl | rfl | rfl <;> rfl
theorem decDigits_len : ∀ (n : Nat), (Lib.decDigits n).length ≤ n + 1 := by
  intro n
  induction n using Nat.strongRecOn with
  | _ n ih =>
    rw [Lib.decDigits]
    split
    · simp
    · have := ih (n / 10) (by omega)
      rw [List.length_append, List.length_singleton]; omega
theorem dec_small {n : Nat} (h : n < 10) : Lib.decDigits n = [UInt8.ofNat (48 + n)] := by rw [Lib.decDigits, dif_pos h]
theorem dec_big {n : Nat} (h : ¬ n < 10) : Lib.decDigits n = Lib.decDigits (n / 10) ++ [UInt8.ofNat (48 + n % 10)] := by rw [Lib.decDigits, dif_neg h]
theorem pos_ev : ∀ (n : Nat), n ≤ 999999 → Ev (fun k => spec_l1Num.f k (n : Int)) (⟨(Lib.decDigits n).toArray⟩ : ByteArray) := by
  intro n
  induction n using Nat.strongRecOn with
  | _ n ih =>
    intro h
    refine ev_succ ?_
    simp only [spec_l1Num.f]
    refine ev_neg (by omega) ?_
    by_cases h10 : n < 10
    · rw [wrap_of (x := (n : Int) + 1) (by omega) (by omega)]
      refine ev_pos (by omega) (ev_pos (by omega) (ev_pos (by omega) (ev_pos (by omega) (ev_now ?_))))
      rw [dec_small h10, show ((n : Int)).toNat = n by omega, show ((n : Int) + 1).toNat = n + 1 by omega, dig_cut n (by omega)]
    · have e1 : Int.tdiv (n : Int) 10 = ((n / 10 : Nat) : Int) := by rw [Int.tdiv_eq_ediv_of_nonneg (by omega)]; omega
      have e2 : Int.tmod (n : Int) 10 = ((n % 10 : Nat) : Int) := by rw [Int.tmod_eq_emod_of_nonneg (by omega)]; omega
      have hl := decDigits_len (n / 10)
      rw [e1, e2, wrap_of (x := ((n / 10 : Nat) : Int)) (by omega) (by omega), wrap_of (x := ((n % 10 : Nat) : Int) + 1) (by omega) (by omega)]
      rw [show (((n % 10 : Nat) : Int)).toNat = n % 10 by omega, show (((n % 10 : Nat) : Int) + 1).toNat = n % 10 + 1 by omega, dig_cut (n % 10) (by omega)]
      refine ev_neg (by omega) (ev_bind (ih (n / 10) (by omega) (by omega)) (ev_pos (by omega) (ev_pos (by omega) (ev_pos (by omega) (ev_pos ?_ (ev_now ?_))))))
      · simp [ByteArray.size]; omega
      · rw [dec_big h10]
        apply ByteArray.ext; simp [ByteArray.data_append]
theorem neg_ev : ∀ (n : Nat), 1 ≤ n → n ≤ 999999 → Ev (fun k => spec_l1Num.f k (-(n : Int))) (⟨(45 :: Lib.decDigits n).toArray⟩ : ByteArray) := by
  intro n
  induction n using Nat.strongRecOn with
  | _ n ih =>
    intro h0 h
    refine ev_succ ?_
    simp only [spec_l1Num.f]
    refine ev_pos (by omega) ?_
    have hl := decDigits_len n
    by_cases h10 : n < 10
    · rw [show (- -(n : Int)) = (n : Int) by omega, wrap_of (x := (n : Int)) (by omega) (by omega)]
      refine ev_pos (by omega) (ev_bind (pos_ev n h) (ev_pos ?_ (ev_now ?_)))
      · simp [ByteArray.size]; omega
      · skip
        apply ByteArray.ext; simp [ByteArray.data_append]
    · have e1 : Int.tdiv (-(n : Int)) 10 = -((n / 10 : Nat) : Int) := by rw [Int.neg_tdiv, Int.tdiv_eq_ediv_of_nonneg (by omega)]; omega
      have e2 : Int.tmod (-(n : Int)) 10 = -((n % 10 : Nat) : Int) := by rw [Int.neg_tmod, Int.tmod_eq_emod_of_nonneg (by omega)]; omega
      have hl2 := decDigits_len (n / 10)
      have hl3 := decDigits_len (n % 10)
      rw [e1, e2, show (- -((n % 10 : Nat) : Int)) = ((n % 10 : Nat) : Int) by omega, wrap_of (x := -((n / 10 : Nat) : Int)) (by omega) (by omega), wrap_of (x := ((n % 10 : Nat) : Int)) (by omega) (by omega)]
      refine ev_neg (by omega) (ev_bind (ih (n / 10) (by omega) (by omega) (by omega)) (ev_bind (pos_ev (n % 10) (by omega)) (ev_pos ?_ (ev_now ?_))))
      · simp [ByteArray.size]; omega
      · rw [dec_big h10, dec_small (n := n % 10) (by omega)]
        apply ByteArray.ext; simp [ByteArray.data_append]

/-! ### spec.l1Stands -/
def hasB (s : ByteArray) (b : UInt8) : Bool := decide (0 ≤ Lib.indexByte s.data.toList b)
theorem index_any (b : UInt8) : ∀ l : List UInt8, decide (0 ≤ Lib.indexByte l b) = l.any (fun x => x == b) := by
  intro l
  induction l with
  | nil => rfl
  | cons x l ih =>
    have hg := Lib.indexByte_ge l b
    simp only [Lib.indexByte, List.any_cons, ← ih]
    by_cases hx : x == b
    · simp [hx]
    · simp only [hx, Bool.false_eq_true, if_false, Bool.false_or]
      by_cases h1 : Lib.indexByte l b == -1
      · have := eq_of_beq h1; simp [this]
      · have h2 : Lib.indexByte l b ≠ -1 := fun e => h1 (by simp [e])
        rw [if_neg h1]
        have : (0 ≤ Lib.indexByte l b + 1) ↔ (0 ≤ Lib.indexByte l b) := by omega
        simp [this]
theorem stands_l (s : ByteArray) (b : UInt8) (hl : s.size ≤ 1048576) : ∀ (suf pre : List Int), bytesOf s = pre ++ suf → Ev (fun k => spec_l1Stands.l0 k s (b.toNat : Int) (pre.length : Int)) (suf.any (fun x => decide (x = (b.toNat : Int)))) := by
  intro suf
  induction suf with
  | nil =>
    intro pre e
    have h := size_end e
    refine ev_succ ?_
    simp only [spec_l1Stands.l0.eq_2]
    exact ev_neg (by omega) (ev_now rfl)
  | cons c suf ih =>
    intro pre e
    have h := size_mid e
    refine ev_succ ?_
    simp only [spec_l1Stands.l0.eq_2, bt_mid e]
    rw [wrap_snoc (pre := pre) (c := c) (by omega)]
    refine ev_pos (by omega) (ev_pos (by omega) ?_)
    by_cases hc : c = (b.toNat : Int)
    · exact ev_pos hc (ev_now (by simp [hc]))
    · exact ev_neg hc (ev_eq (ih _ (snoc_mid e)) (by simp [hc]))
theorem stands_ev (s : ByteArray) (b : UInt8) (hl : s.size ≤ 1048576) : Ev (fun k => spec_l1Stands.f k s (b.toNat : Int)) (hasB s b) := by
  unfold spec_l1Stands.f
  refine ev_eq (stands_l s b hl (bytesOf s) [] rfl) ?_
  unfold hasB
  rw [index_any, show bytesOf s = s.data.toList.map (fun x => (x.toNat : Int)) from rfl, List.any_map]
  congr 1
  funext x
  simp only [Function.comp]
  rw [Bool.eq_iff_iff]
  simp only [decide_eq_true_eq, beq_iff_eq]
  constructor
  · intro h; exact UInt8.toNat_inj.1 (by omega)
  · rintro rfl; rfl

/-! ### spec.l1Sum, impl.checksum -/
def sumStep (h c : Int) : Int := Int.tmod (wrap64 ((wrap64 ((wrap64 (41 * h)) + (wrap64 c))) + 1)) 999979

theorem spec_sum (s : ByteArray) (hs : s.size ≤ 140737488351232) : ∀ (suf pre : List Int) (h : Int), bytesOf s = pre ++ suf → Ev (fun k => spec_l1Sum.l0 k s h (pre.length : Int)) (suf.foldl sumStep h) := by
  intro suf
  induction suf with
  | nil =>
    intro pre h e
    have hl := size_end e
    refine ev_succ ?_
    simp only [spec_l1Sum.l0.eq_2]
    refine ev_neg (by omega) ?_
    exact ev_now rfl
  | cons c suf ih =>
    intro pre h e
    have hl := size_mid e
    refine ev_succ ?_
    simp only [spec_l1Sum.l0.eq_2, bt_mid e]
    refine ev_pos (by omega) (ev_pos (by omega) ?_)
    rw [wrap_snoc (pre := pre) (c := c) (by omega)]
    exact ih _ _ (snoc_mid e)

theorem impl_sum (s : ByteArray) (hs : s.size ≤ 140737488351232) : ∀ (suf pre : List Int) (h : Int), bytesOf s = pre ++ suf → Ev (fun k => impl_checksum.l0 k s h (s.size : Int) (pre.length : Int)) (suf.foldl sumStep h) := by
  intro suf
  induction suf with
  | nil =>
    intro pre h e
    have hl := size_end e
    refine ev_succ ?_
    simp only [impl_checksum.l0.eq_2]
    refine ev_neg (by omega) ?_
    exact ev_now rfl
  | cons c suf ih =>
    intro pre h e
    have hl := size_mid e
    refine ev_succ ?_
    simp only [impl_checksum.l0.eq_2, bt_mid e]
    refine ev_pos (by omega) (ev_pos (by omega) (ev_pos (by omega) ?_))
    rw [wrap_snoc (pre := pre) (c := c) (by omega)]
    exact ih _ _ (snoc_mid e)


/-! ### spec.l1Seal -/
theorem dec_len2 : ∀ (m n : Nat), n < 10 ^ (m + 1) → (Lib.decDigits n).length ≤ m + 1 := by
  intro m
  induction m with
  | zero => intro n h; rw [dec_small (by omega)]; simp
  | succ m ih =>
    intro n h
    by_cases h10 : n < 10
    · rw [dec_small h10]; simp
    · rw [dec_big h10]
      have := ih (n / 10) (by rw [Nat.pow_succ] at h; omega)
      rw [List.length_append, List.length_singleton]; omega
theorem fold_range : ∀ (suf : List Int) (h : Int), (∀ c ∈ suf, 0 ≤ c ∧ c ≤ 255) → 0 ≤ h → h ≤ 1000000 → 0 ≤ suf.foldl sumStep h ∧ suf.foldl sumStep h ≤ 1000000 := by
  intro suf
  induction suf with
  | nil => intro h _ h0 h1; exact ⟨h0, h1⟩
  | cons c suf ih =>
    intro h hc h0 h1
    have hcc := hc c (by simp)
    rw [List.foldl_cons]
    have e : sumStep h c = (41 * h + c + 1) % 999979 := by
      unfold sumStep
      rw [wrap_of (x := 41 * h) (by omega) (by omega), wrap_of (x := c) (by omega) (by omega), wrap_of (x := 41 * h + c) (by omega) (by omega), wrap_of (x := 41 * h + c + 1) (by omega) (by omega)]
      rw [Int.tmod_eq_emod_of_nonneg (by omega)]
    exact ih _ (fun x hx => hc x (by simp [hx])) (by rw [e]; omega) (by rw [e]; omega)
def csum (s : ByteArray) : Int := (bytesOf s).foldl sumStep 7
theorem csum_range (s : ByteArray) : 0 ≤ csum s ∧ csum s ≤ 1000000 := fold_range _ _ (fun c hc => bytes_range hc) (by omega) (by omega)
def numB (h : Int) : ByteArray := ⟨(Lib.itoa h).toArray⟩
theorem spec_csum_ev (s : ByteArray) (hs : s.size ≤ 140737488351232) : Ev (fun k => spec_l1Sum.f k s) (csum s) := by
  unfold spec_l1Sum.f
  exact spec_sum s hs (bytesOf s) [] 7 rfl
theorem impl_csum_ev (s : ByteArray) (hs : s.size ≤ 140737488351232) : Ev (fun k => impl_checksum.f k s) (csum s) := by
  unfold impl_checksum.f
  exact impl_sum s hs (bytesOf s) [] 7 rfl
theorem fold_lt : ∀ (suf : List Int) (h : Int), (∀ c ∈ suf, 0 ≤ c ∧ c ≤ 255) → 0 ≤ h → h ≤ 999978 → suf.foldl sumStep h ≤ 999978 := by
  intro suf
  induction suf with
  | nil => intro h _ h0 h1; exact h1
  | cons c suf ih =>
    intro h hc h0 h1
    have hcc := hc c (by simp)
    rw [List.foldl_cons]
    have e : sumStep h c = (41 * h + c + 1) % 999979 := by
      unfold sumStep
      rw [wrap_of (x := 41 * h) (by omega) (by omega), wrap_of (x := c) (by omega) (by omega), wrap_of (x := 41 * h + c) (by omega) (by omega), wrap_of (x := 41 * h + c + 1) (by omega) (by omega)]
      rw [Int.tmod_eq_emod_of_nonneg (by omega)]
    exact ih _ (fun x hx => hc x (by simp [hx])) (by rw [e]; omega) (by rw [e]; omega)
theorem csum_lt (s : ByteArray) : csum s ≤ 999978 := fold_lt _ _ (fun c hc => bytes_range hc) (by omega) (by omega)
theorem num_size (s : ByteArray) : (numB (csum s)).size ≤ 7 := by
  have h := csum_range s
  obtain ⟨n, hn⟩ : ∃ n : Nat, csum s = (n : Int) := ⟨(csum s).toNat, by omega⟩
  unfold numB
  have hi : Lib.itoa (csum s) = Lib.decDigits n := by rw [hn]; unfold Lib.itoa; rw [if_neg (by omega)]; congr 1
  rw [hi]
  have := dec_len2 6 n (by omega)
  simpa [ByteArray.size] using this
def sealB (s : ByteArray) : ByteArray := (s ++ (⟨#[35]⟩ : ByteArray)) ++ numB (csum s)
theorem seal_size (s : ByteArray) : (sealB s).size = s.size + 1 + (numB (csum s)).size := by
  unfold sealB
  rw [ByteArray.size_append, ByteArray.size_append]; rfl
theorem seal_ev (s : ByteArray) (hs : s.size ≤ 140737488351232) : Ev (fun k => spec_l1Seal.f k s) (sealB s) := by
  unfold spec_l1Seal.f
  have h := csum_range s
  have hl := csum_lt s
  have hz := num_size s
  have hz1 : (s ++ (⟨#[35]⟩ : ByteArray)).size = s.size + 1 := by rw [ByteArray.size_append]; rfl
  obtain ⟨n, hn⟩ : ∃ n : Nat, csum s = (n : Int) := ⟨(csum s).toNat, by omega⟩
  have hi : numB (csum s) = ⟨(Lib.decDigits n).toArray⟩ := by unfold numB; rw [hn]; unfold Lib.itoa; rw [if_neg (by omega)]; congr 1
  have hp : Ev (fun k => spec_l1Num.f k (csum s)) (numB (csum s)) := by rw [hi, hn]; exact pos_ev n (by omega)
  refine ev_pos (by omega) (ev_bind (spec_csum_ev s hs) (ev_bind hp (ev_pos (by rw [hz1]; omega) (ev_now rfl))))

theorem spec_ev (s : ByteArray) (hs : s.size ≤ 1048576) : Ev (fun k => spec_AppendChecksum.f k s) (acV s (numB (csum s))) := by
  unfold spec_AppendChecksum.f
  have hsz := seal_size s
  have hu : ((s ++ (⟨#[35]⟩ : ByteArray)) ++ numB (csum s)).size = (sealB s).size := rfl
  by_cases h1 : (s.size : Int) > 4000
  · exact ev_pos h1 (ev_now (by unfold acV; rw [if_neg (fun hh => by have := hh.1; omega)]))
  · have h35 : Ev (fun k => spec_l1Stands.f k s 35) (hasB s 35) := stands_ev s 35 hs
    refine ev_neg h1 (ev_bind h35 ?_)
    by_cases hv : hasB s 35 = true
    · refine ev_pos hv (ev_now ?_)
      unfold acV
      rw [if_neg (fun hh => by have h2 := hh.2.1; unfold hasB at hv; rw [hv] at h2; exact absurd h2 (by simp))]
    · have hv' : decide (0 ≤ Lib.indexByte s.data.toList 35) = false := by unfold hasB at hv; simpa using hv
      refine ev_neg hv (ev_bind (seal_ev s (by omega)) ?_)
      by_cases h4 : ((sealB s).size : Int) > 4000
      · refine ev_pos h4 (ev_now ?_)
        unfold acV
        rw [if_neg (fun hh => by have := hh.2.2; rw [hu] at this; omega)]
      · refine ev_neg h4 (ev_bind (seal_ev s (by omega)) (ev_now ?_))
        unfold acV
        rw [if_pos ⟨by omega, hv', by rw [hu]; omega⟩]; rfl
theorem FnExactAppendChecksum (s : ByteArray) (hs : s.size ≤ 140737488351232) : ∃ k h t, impl_checksum.f k s = some h ∧ (0 ≤ h ∧ h ≤ 1000000) ∧ (⟨(Lib.itoa h).toArray⟩ : ByteArray) = t ∧ t.size ≤ 100 ∧ (s.size ≤ 1048576 → spec_AppendChecksum.f k s = some (acV s t)) := by
  obtain ⟨K1, h1⟩ := impl_csum_ev s hs
  have hz := num_size s
  by_cases hb : s.size ≤ 1048576
  · obtain ⟨K2, h2⟩ := spec_ev s hb
    exact ⟨K1 + K2, csum s, numB (csum s), h1 _ (by omega), csum_range s, rfl, by omega, fun _ => h2 _ (by omega)⟩
  · exact ⟨K1, csum s, numB (csum s), h1 _ (by omega), csum_range s, rfl, by omega, fun hh => absurd hh hb⟩
end Go.Proofs.YtjaplmgbhmgpiaaDoor.Pure
