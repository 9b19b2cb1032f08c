/- The pure statement of FnExactVerifyChecksum: the reference tells the same text of every string. No condition. -/
import Derived.Test.YtjaplmgbhmgpiaaDoorMFnExactVerifyChecksumx1
import Derived.Test.YtjaplmgbhmgpiaaDoorBase
import Derived.Test.YtjaplmgbhmgpiaaDoorBaseS
namespace Go.Proofs.YtjaplmgbhmgpiaaDoor.Pure
open Go Go.RowKit Go.Proofs.YtjaplmgbhmgpiaaDoor.MFnExactVerifyChecksum Go.Proofs.YtjaplmgbhmgpiaaDoorW.PrintWords Go.Proofs.YtjaplmgbhmgpiaaDoor.Base
set_option linter.unusedVariables false
set_option linter.unusedSimpArgs false
/-! ### spec.l1Num -/
theorem dig_cut (d : Nat) (h : d ≤ 9) : (⟨#[48, 49, 50, 51, 52, 53, 54, 55, 56, 57]⟩ : ByteArray).extract d (d + 1) = ⟨#[UInt8.ofNat (48 + d)]⟩ := by
  have : d = 0 ∨ d = 1 ∨ d = 2 ∨ d = 3 ∨ d = 4 ∨ d = 5 ∨ d = 6 ∨ d = 7 ∨ d = 8 ∨ d = 9 := by omega
  rcases this with rfl | rfl | rfl | rfl | rfl | rfl | rfl | rfl | rfl | rfl <;> rfl
theorem decDigits_len : ∀ (n : Nat), (Lib.decDigits n).length ≤ n + 1 := by
  intro n
  induction n using Nat.strongRecOn with
  | _ n ih =>
    rw [Lib.decDigits]
    split
    · simp
    · have := ih (n / 10) (by omega)
      rw [List.length_append, List.length_singleton]; omega
theorem dec_small {n : Nat} (h : n < 10) : Lib.decDigits n = [UInt8.ofNat (48 + n)] := by rw [Lib.decDigits, dif_pos h]
theorem dec_big {n : Nat} (h : ¬ n < 10) : Lib.decDigits n = Lib.decDigits (n / 10) ++ [UInt8.ofNat (48 + n % 10)] := by rw [Lib.decDigits, dif_neg h]
theorem pos_ev : ∀ (n : Nat), n ≤ 999999 → Ev (fun k => spec_l1Num.f k (n : Int)) (⟨(Lib.decDigits n).toArray⟩ : ByteArray) := by
  intro n
  induction n using Nat.strongRecOn with
  | _ n ih =>
    intro h
    refine ev_succ ?_
    simp only [spec_l1Num.f]
    refine ev_neg (by omega) ?_
    by_cases h10 : n < 10
    · rw [wrap_of (x := (n : Int) + 1) (by omega) (by omega)]
      refine ev_pos (by omega) (ev_pos (by omega) (ev_pos (by omega) (ev_pos (by omega) (ev_now ?_))))
      rw [dec_small h10, show ((n : Int)).toNat = n by omega, show ((n : Int) + 1).toNat = n + 1 by omega, dig_cut n (by omega)]
    · have e1 : Int.tdiv (n : Int) 10 = ((n / 10 : Nat) : Int) := by rw [Int.tdiv_eq_ediv_of_nonneg (by omega)]; omega
      have e2 : Int.tmod (n : Int) 10 = ((n % 10 : Nat) : Int) := by rw [Int.tmod_eq_emod_of_nonneg (by omega)]; omega
      have hl := decDigits_len (n / 10)
      rw [e1, e2, wrap_of (x := ((n / 10 : Nat) : Int)) (by omega) (by omega), wrap_of (x := ((n % 10 : Nat) : Int) + 1) (by omega) (by omega)]
      rw [show (((n % 10 : Nat) : Int)).toNat = n % 10 by omega, show (((n % 10 : Nat) : Int) + 1).toNat = n % 10 + 1 by omega, dig_cut (n % 10) (by omega)]
      refine ev_neg (by omega) (ev_bind (ih (n / 10) (by omega) (by omega)) (ev_pos (by omega) (ev_pos (by omega) (ev_pos (by omega) (ev_pos ?_ (ev_now ?_))))))
      · simp [ByteArray.size]; omega
      · rw [dec_big h10]
        apply ByteArray.ext; simp [ByteArray.data_append]
theorem neg_ev : ∀ (n : Nat), 1 ≤ n → n ≤ 999999 → Ev (fun k => spec_l1Num.f k (-(n : Int))) (⟨(45 :: Lib.decDigits n).toArray⟩ : ByteArray) := by
  intro n
  induction n using Nat.strongRecOn with
  | _ n ih =>
    intro h0 h
    refine ev_succ ?_
    simp only [spec_l1Num.f]
    refine ev_pos (by omega) ?_
    have hl := decDigits_len n
    by_cases h10 : n < 10
    · rw [show (- -(n : Int)) = (n : Int) by omega, wrap_of (x := (n : Int)) (by omega) (by omega)]
      refine ev_pos (by omega) (ev_bind (pos_ev n h) (ev_pos ?_ (ev_now ?_)))
      · simp [ByteArray.size]; omega
      · skip
        apply ByteArray.ext; simp [ByteArray.data_append]
    · have e1 : Int.tdiv (-(n : Int)) 10 = -((n / 10 : Nat) : Int) := by rw [Int.neg_tdiv, Int.tdiv_eq_ediv_of_nonneg (by omega)]; omega
      have e2 : Int.tmod (-(n : Int)) 10 = -((n % 10 : Nat) : Int) := by rw [Int.neg_tmod, Int.tmod_eq_emod_of_nonneg (by omega)]; omega
      have hl2 := decDigits_len (n / 10)
      have hl3 := decDigits_len (n % 10)
      rw [e1, e2, show (- -((n % 10 : Nat) : Int)) = ((n % 10 : Nat) : Int) by omega, wrap_of (x := -((n / 10 : Nat) : Int)) (by omega) (by omega), wrap_of (x := ((n % 10 : Nat) : Int)) (by omega) (by omega)]
      refine ev_neg (by omega) (ev_bind (ih (n / 10) (by omega) (by omega) (by omega)) (ev_bind (pos_ev (n % 10) (by omega)) (ev_pos ?_ (ev_now ?_))))
      · simp [ByteArray.size]; omega
      · rw [dec_big h10, dec_small (n := n % 10) (by omega)]
        apply ByteArray.ext; simp [ByteArray.data_append]

/-! ### spec.l1Stands -/
def hasB (s : ByteArray) (b : UInt8) : Bool := decide (0 ≤ Lib.indexByte s.data.toList b)
theorem index_any (b : UInt8) : ∀ l : List UInt8, decide (0 ≤ Lib.indexByte l b) = l.any (fun x => x == b) := by
  intro l
  induction l with
  | nil => rfl
  | cons x l ih =>
    have hg := Lib.indexByte_ge l b
    simp only [Lib.indexByte, List.any_cons, ← ih]
    by_cases hx : x == b
    · simp [hx]
    · simp only [hx, Bool.false_eq_true, if_false, Bool.false_or]
      by_cases h1 : Lib.indexByte l b == -1
      · have := eq_of_beq h1; simp [this]
      · have h2 : Lib.indexByte l b ≠ -1 := fun e => h1 (by simp [e])
        rw [if_neg h1]
        have : (0 ≤ Lib.indexByte l b + 1) ↔ (0 ≤ Lib.indexByte l b) := by omega
        simp [this]

/-! ### spec.l1Sum, impl.checksum -/
def sumStep (h c : Int) : Int := Int.tmod (wrap64 ((wrap64 ((wrap64 (41 * h)) + (wrap64 c))) + 1)) 999979

theorem spec_sum (s : ByteArray) (hs : s.size ≤ 140737488351232) : ∀ (suf pre : List Int) (h : Int), bytesOf s = pre ++ suf → Ev (fun k => spec_l1Sum.l0 k s h (pre.length : Int)) (suf.foldl sumStep h) := by
  intro suf
  induction suf with
  | nil =>
    intro pre h e
    have hl := size_end e
    refine ev_succ ?_
    simp only [spec_l1Sum.l0.eq_2]
    refine ev_neg (by omega) ?_
    exact ev_now rfl
  | cons c suf ih =>
    intro pre h e
    have hl := size_mid e
    refine ev_succ ?_
    simp only [spec_l1Sum.l0.eq_2, bt_mid e]
    refine ev_pos (by omega) (ev_pos (by omega) ?_)
    rw [wrap_snoc (pre := pre) (c := c) (by omega)]
    exact ih _ _ (snoc_mid e)

theorem impl_sum (s : ByteArray) (hs : s.size ≤ 140737488351232) : ∀ (suf pre : List Int) (h : Int), bytesOf s = pre ++ suf → Ev (fun k => impl_checksum.l0 k s h (s.size : Int) (pre.length : Int)) (suf.foldl sumStep h) := by
  intro suf
  induction suf with
  | nil =>
    intro pre h e
    have hl := size_end e
    refine ev_succ ?_
    simp only [impl_checksum.l0.eq_2]
    refine ev_neg (by omega) ?_
    exact ev_now rfl
  | cons c suf ih =>
    intro pre h e
    have hl := size_mid e
    refine ev_succ ?_
    simp only [impl_checksum.l0.eq_2, bt_mid e]
    refine ev_pos (by omega) (ev_pos (by omega) (ev_pos (by omega) ?_))
    rw [wrap_snoc (pre := pre) (c := c) (by omega)]
    exact ih _ _ (snoc_mid e)


/-! ### spec.l1Seal -/
theorem dec_len2 : ∀ (m n : Nat), n < 10 ^ (m + 1) → (Lib.decDigits n).length ≤ m + 1 := by
  intro m
  induction m with
  | zero => intro n h; rw [dec_small (by omega)]; simp
  | succ m ih =>
    intro n h
    by_cases h10 : n < 10
    · rw [dec_small h10]; simp
    · rw [dec_big h10]
      have := ih (n / 10) (by rw [Nat.pow_succ] at h; omega)
      rw [List.length_append, List.length_singleton]; omega
theorem fold_range : ∀ (suf : List Int) (h : Int), (∀ c ∈ suf, 0 ≤ c ∧ c ≤ 255) → 0 ≤ h → h ≤ 1000000 → 0 ≤ suf.foldl sumStep h ∧ suf.foldl sumStep h ≤ 1000000 := by
  intro suf
  induction suf with
  | nil => intro h _ h0 h1; exact ⟨h0, h1⟩
  | cons c suf ih =>
    intro h hc h0 h1
    have hcc := hc c (by simp)
    rw [List.foldl_cons]
    have e : sumStep h c = (41 * h + c + 1) % 999979 := by
      unfold sumStep
      rw [wrap_of (x := 41 * h) (by omega) (by omega), wrap_of (x := c) (by omega) (by omega), wrap_of (x := 41 * h + c) (by omega) (by omega), wrap_of (x := 41 * h + c + 1) (by omega) (by omega)]
      rw [Int.tmod_eq_emod_of_nonneg (by omega)]
    exact ih _ (fun x hx => hc x (by simp [hx])) (by rw [e]; omega) (by rw [e]; omega)
def csum (s : ByteArray) : Int := (bytesOf s).foldl sumStep 7
theorem csum_range (s : ByteArray) : 0 ≤ csum s ∧ csum s ≤ 1000000 := fold_range _ _ (fun c hc => bytes_range hc) (by omega) (by omega)
def numB (h : Int) : ByteArray := ⟨(Lib.itoa h).toArray⟩
theorem spec_csum_ev (s : ByteArray) (hs : s.size ≤ 140737488351232) : Ev (fun k => spec_l1Sum.f k s) (csum s) := by
  unfold spec_l1Sum.f
  exact spec_sum s hs (bytesOf s) [] 7 rfl
theorem impl_csum_ev (s : ByteArray) (hs : s.size ≤ 140737488351232) : Ev (fun k => impl_checksum.f k s) (csum s) := by
  unfold impl_checksum.f
  exact impl_sum s hs (bytesOf s) [] 7 rfl
theorem fold_lt : ∀ (suf : List Int) (h : Int), (∀ c ∈ suf, 0 ≤ c ∧ c ≤ 255) → 0 ≤ h → h ≤ 999978 → suf.foldl sumStep h ≤ 999978 := by
  intro suf
  induction suf with
  | nil => intro h _ h0 h1; exact h1
  | cons c suf ih =>
    intro h hc h0 h1
    have hcc := hc c (by simp)
    rw [List.foldl_cons]
    have e : sumStep h c = (41 * h + c + 1) % 999979 := by
      unfold sumStep
      rw [wrap_of (x := 41 * h) (by omega) (by omega), wrap_of (x := c) (by omega) (by omega), wrap_of (x := 41 * h + c) (by omega) (by omega), wrap_of (x := 41 * h + c + 1) (by omega) (by omega)]
      rw [Int.tmod_eq_emod_of_nonneg (by omega)]
    exact ih _ (fun x hx => hc x (by simp [hx])) (by rw [e]; omega) (by rw [e]; omega)
theorem csum_lt (s : ByteArray) : csum s ≤ 999978 := fold_lt _ _ (fun c hc => bytes_range hc) (by omega) (by omega)
theorem num_size (s : ByteArray) : (numB (csum s)).size ≤ 7 := by
  have h := csum_range s
  obtain ⟨n, hn⟩ : ∃ n : Nat, csum s = (n : Int) := ⟨(csum s).toNat, by omega⟩
  unfold numB
  have hi : Lib.itoa (csum s) = Lib.decDigits n := by rw [hn]; unfold Lib.itoa; rw [if_neg (by omega)]; congr 1
  rw [hi]
  have := dec_len2 6 n (by omega)
  simpa [ByteArray.size] using this
def sealB (s : ByteArray) : ByteArray := (s ++ (⟨#[35]⟩ : ByteArray)) ++ numB (csum s)
theorem seal_size (s : ByteArray) : (sealB s).size = s.size + 1 + (numB (csum s)).size := by
  unfold sealB
  rw [ByteArray.size_append, ByteArray.size_append]; rfl
theorem seal_ev (s : ByteArray) (hs : s.size ≤ 140737488351232) : Ev (fun k => spec_l1Seal.f k s) (sealB s) := by
  unfold spec_l1Seal.f
  have h := csum_range s
  have hl := csum_lt s
  have hz := num_size s
  have hz1 : (s ++ (⟨#[35]⟩ : ByteArray)).size = s.size + 1 := by rw [ByteArray.size_append]; rfl
  obtain ⟨n, hn⟩ : ∃ n : Nat, csum s = (n : Int) := ⟨(csum s).toNat, by omega⟩
  have hi : numB (csum s) = ⟨(Lib.decDigits n).toArray⟩ := by unfold numB; rw [hn]; unfold Lib.itoa; rw [if_neg (by omega)]; congr 1
  have hp : Ev (fun k => spec_l1Num.f k (csum s)) (numB (csum s)) := by rw [hi, hn]; exact pos_ev n (by omega)
  refine ev_pos (by omega) (ev_bind (spec_csum_ev s hs) (ev_bind hp (ev_pos (by rw [hz1]; omega) (ev_now rfl))))

theorem spec_split_l (s : ByteArray) (c : Int) (hs : s.size ≤ 4000) : ∀ (suf pre : List Int) (out : List ByteArray) (f : Nat), bytesOf s = pre ++ suf → f ≤ pre.length → out.length ≤ pre.length → Ev (fun k => spec_l1Split.l0 k s c out (f : Int) (pre.length : Int)) (out ++ splitGo s c suf f pre.length) := by
  intro suf
  induction suf with
  | nil =>
    intro pre out f e hf ho
    have h := size_end e
    refine ev_succ ?_
    simp only [spec_l1Split.l0.eq_2]
    refine ev_neg (by omega) (ev_pos (by omega) (ev_pos (by omega) (ev_pos (by omega) (ev_now ?_))))
    simp [splitGo]
  | cons b suf ih =>
    intro pre out f e hf ho
    have h := size_mid e
    refine ev_succ ?_
    simp only [spec_l1Split.l0.eq_2, bt_mid e]
    rw [wrap_snoc (pre := pre) (c := b) (by omega)]
    refine ev_pos (by omega) (ev_pos (by omega) ?_)
    by_cases hb : b = c
    · refine ev_pos hb (ev_pos (by omega) (ev_pos (by omega) (ev_pos (by omega) (ev_pos (by omega) ?_))))
      refine ev_eq (ih _ _ _ (snoc_mid e) (Nat.le_refl _) ?_) ?_
      · simp; omega
      · simp [splitGo, hb]
    · refine ev_neg hb ?_
      refine ev_eq (ih _ _ _ (snoc_mid e) ?_ ?_) ?_
      · simp; omega
      · simp; omega
      · simp [splitGo, hb]

theorem take_while_len {α : Type} (p : α → Bool) : ∀ l : List α, l.take (l.takeWhile p).length = l.takeWhile p := by
  intro l
  induction l with
  | nil => rfl
  | cons x l ih =>
    rw [List.takeWhile_cons]
    split
    · simp [ih]
    · simp
theorem while_any (b : UInt8) : ∀ l : List UInt8, (l.takeWhile (fun x => x != b)).any (fun x => x == b) = false := by
  intro l
  induction l with
  | nil => rfl
  | cons x l ih =>
    rw [List.takeWhile_cons]
    by_cases hx : x != b
    · rw [if_pos hx, List.any_cons, ih]
      have : (x == b) = false := by simpa using hx
      simp [this]
    · rw [if_neg hx]; rfl
theorem cut_while (b : UInt8) : ∀ l : List UInt8, (if 0 ≤ Lib.indexByte l b then l.take (Lib.indexByte l b).toNat else l) = l.takeWhile (fun x => x != b) := by
  intro l
  induction l with
  | nil => rfl
  | cons x l ih =>
    have hg := Lib.indexByte_ge l b
    rw [List.takeWhile_cons]
    simp only [Lib.indexByte]
    by_cases hx : x == b
    · have : (x != b) = false := by simp [bne, hx]
      simp [hx, this]
    · have h2 : (x != b) = true := by simp [bne, hx]
      simp only [hx, Bool.false_eq_true, if_false, h2, if_true]
      by_cases h1 : Lib.indexByte l b == -1
      · have h3 := eq_of_beq h1
        rw [if_pos h1, if_neg (by omega), ← ih, if_neg (by omega)]
      · have h3 : Lib.indexByte l b ≠ -1 := fun e => h1 (by simp [e])
        rw [if_neg h1, if_pos (by omega), ← ih, if_pos (by omega), show (Lib.indexByte l b + 1).toNat = (Lib.indexByte l b).toNat + 1 by omega, List.take_succ_cons]
theorem cut1 (l : List UInt8) : (Lib.cut l [35]).1 = l.takeWhile (fun x => x != 35) := by
  rw [← cut_while]
  unfold Lib.cut
  rw [Lib.index_one]
  split <;> rfl
theorem head_split (s : ByteArray) (c : Int) : ∀ (suf pre : List Int) (f : Nat), bytesOf s = pre ++ suf → rdOf ByteArray.empty (splitGo s c suf f pre.length) 0 = s.extract f (pre.length + (suf.takeWhile (fun x => decide (x ≠ c))).length) := by
  intro suf
  induction suf with
  | nil =>
    intro pre f e
    have h := size_end e
    have : s.size = pre.length := by omega
    simp only [splitGo, List.takeWhile_nil, List.length_nil, Nat.add_zero, this]; rfl
  | cons b suf ih =>
    intro pre f e
    simp only [splitGo]
    by_cases hb : b = c
    · rw [if_pos hb, List.takeWhile_cons, if_neg (by simp [hb])]; rfl
    · rw [if_neg hb, List.takeWhile_cons, if_pos (by simp [hb])]
      have := ih (pre ++ [b]) f (snoc_mid e)
      rw [List.length_append, List.length_singleton] at this
      rw [this, List.length_cons]
      congr 1; omega
theorem while_map (l : List UInt8) : ((l.map (fun b => (b.toNat : Int))).takeWhile (fun x => decide (x ≠ 35))).length = (l.takeWhile (fun x => x != 35)).length := by
  induction l with
  | nil => rfl
  | cons x l ih =>
    rw [List.map_cons, List.takeWhile_cons, List.takeWhile_cons]
    by_cases hx : x = 35
    · subst hx; rfl
    · have h1 : decide ((x.toNat : Int) ≠ 35) = true := decide_eq_true (fun e => hx (UInt8.toNat_inj.1 (by simpa using (by omega : x.toNat = 35))))
      have h2 : (x != 35) = true := by simpa using hx
      rw [if_pos h1, if_pos h2, List.length_cons, List.length_cons, ih]
def cutB (s : ByteArray) : ByteArray := ⟨(Lib.cut s.data.toList [35]).1.toArray⟩
theorem cutB_data (s : ByteArray) : (cutB s).data.toList = s.data.toList.takeWhile (fun x => x != 35) := by
  unfold cutB; rw [cut1]
theorem cutB_size (s : ByteArray) : (cutB s).size ≤ s.size := by
  have h1 : (cutB s).size = (cutB s).data.toList.length := by rw [Array.length_toList]; rfl
  have h2 : s.size = s.data.toList.length := by rw [Array.length_toList]; rfl
  have := (List.takeWhile_sublist (l := s.data.toList) (fun x => x != 35)).length_le
  rw [h1, h2, cutB_data]; exact this
theorem cut_head (s : ByteArray) : rdOf ByteArray.empty (splitGo s 35 (bytesOf s) 0 0) 0 = cutB s := by
  have := head_split s 35 (bytesOf s) [] 0 rfl
  rw [List.length_nil] at this
  rw [this, show bytesOf s = s.data.toList.map (fun x => (x.toNat : Int)) from rfl, while_map, Nat.zero_add]
  apply Go.WideShapes.bytes_inj
  rw [cutB_data]
  have e : (s.extract 0 (s.data.toList.takeWhile (fun x => x != 35)).length).data.toList = s.data.toList.take (s.data.toList.takeWhile (fun x => x != 35)).length := by
    rw [ByteArray.data_extract]; simp
  rw [e, take_while_len]
theorem spec_split35_ev (s : ByteArray) (hs : s.size ≤ 4000) : Ev (fun k => spec_l1Split.f k s 35) (splitGo s 35 (bytesOf s) 0 0) := by
  unfold spec_l1Split.f
  have := spec_split_l s 35 hs (bytesOf s) [] [] 0 rfl (Nat.le_refl _) (Nat.le_refl _)
  simpa using this
theorem split_pos (s : ByteArray) (c : Int) : ∀ (suf : List Int) (f i : Nat), 0 < (splitGo s c suf f i).length := by
  intro suf
  induction suf with
  | nil => intro f i; simp [splitGo]
  | cons b suf ih =>
    intro f i
    simp only [splitGo]
    split
    · simp
    · exact ih f (i + 1)
theorem toList_size {a b : ByteArray} (h : a.toList = b.toList) : a.size = b.size := by
  rw [ByteArray.toList_eq a, ByteArray.toList_eq b] at h
  have h1 : a.size = a.data.toList.length := by rw [Array.length_toList]; rfl
  have h2 : b.size = b.data.toList.length := by rw [Array.length_toList]; rfl
  rw [h1, h2, h]
theorem ac_val (s : ByteArray) : acV (cutB s) (numB (csum (cutB s))) = if (cutB s).size ≤ 4000 ∧ (sealB (cutB s)).size ≤ 4000 then (sealB (cutB s), true) else (⟨#[]⟩, false) := by
  have hv : decide (0 ≤ Lib.indexByte (cutB s).data.toList 35) = false := by rw [index_any, cutB_data]; exact while_any 35 _
  unfold acV
  by_cases h : (cutB s).size ≤ 4000 ∧ (sealB (cutB s)).size ≤ 4000
  · rw [if_pos h, if_pos ⟨h.1, hv, h.2⟩]; rfl
  · rw [if_neg h, if_neg (fun hh => h ⟨hh.1, hh.2.2⟩)]
theorem spec_ev (s : ByteArray) (hs : s.size ≤ 1048576) : Ev (fun k => spec_VerifyChecksum.f k s) (vcV s (cutB s) (numB (csum (cutB s)))) := by
  unfold spec_VerifyChecksum.f vcV
  have hcs := cutB_size s
  rw [ac_val]
  by_cases h1 : (s.size : Int) > 4000
  · refine ev_pos h1 (ev_now ?_)
    rw [if_neg]
    rintro ⟨h2, h3⟩
    by_cases h : (cutB s).size ≤ 4000 ∧ (sealB (cutB s)).size ≤ 4000
    · rw [if_pos h] at h3
      have h5 : (sealB (cutB s)).size = s.size := toList_size h3
      omega
    · rw [if_neg h] at h2; cases h2
  · have hp := split_pos s 35 (bytesOf s) 0 0
    refine ev_neg h1 (ev_bind (spec_split35_ev s (by omega)) (ev_pos (by omega) ?_))
    simp only [cut_head]
    refine ev_bind (seal_ev (cutB s) (by omega)) ?_
    by_cases h4 : (sealB (cutB s)).toList = s.toList
    · have hz := toList_size h4
      refine ev_pos h4 (ev_now ?_)
      have hq : (cutB s).size ≤ 4000 ∧ (sealB (cutB s)).size ≤ 4000 := ⟨by omega, by omega⟩
      simp only [if_pos hq]
      rw [if_pos ⟨trivial, h4⟩]
    · refine ev_neg h4 (ev_now ?_)
      by_cases h : (cutB s).size ≤ 4000 ∧ (sealB (cutB s)).size ≤ 4000
      · simp only [if_pos h]
        rw [if_neg (fun hh => h4 hh.2)]
      · simp only [if_neg h]
        rw [if_neg (by simp)]
theorem FnExactVerifyChecksum (s : ByteArray) (hs : s.size ≤ 140737488351232) : ∃ k, (s.size ≤ 1048576 → ∃ (t : ByteArray) (h : Int) (u : ByteArray), (⟨(Lib.cut s.data.toList [35]).1.toArray⟩ : ByteArray) = t ∧ impl_checksum.f k t = some h ∧ (0 ≤ h ∧ h ≤ 1000000) ∧ (⟨(Lib.itoa h).toArray⟩ : ByteArray) = u ∧ u.size ≤ 100 ∧ spec_VerifyChecksum.f k s = some (vcV s t u)) := by
  have hcs := cutB_size s
  obtain ⟨K1, h1⟩ := impl_csum_ev (cutB s) (by omega)
  have hz := num_size (cutB s)
  by_cases hb : s.size ≤ 1048576
  · obtain ⟨K2, h2⟩ := spec_ev s hb
    exact ⟨K1 + K2, fun _ => ⟨cutB s, csum (cutB s), numB (csum (cutB s)), rfl, h1 _ (by omega), csum_range _, rfl, by omega, h2 _ (by omega)⟩⟩
  · exact ⟨0, fun hh => absurd hh hb⟩
end Go.Proofs.YtjaplmgbhmgpiaaDoor.Pure
