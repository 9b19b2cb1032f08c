/- The pure statement of FnExactWordsOf: program and reference tell the same words, in the same sequence. No condition. -/
import Derived.Test.YtmkgigagfhhgcaaMFnExactWordsOfx2
import Derived.Test.YtmkgigagfhhgcaaBase
import Derived.Test.YtmkgigagfhhgcaaBaseS
import Derived.Test.YtmkgigagfhhgcaaBaseW
namespace Go.Proofs.Ytmkgigagfhhgcaa.Pure
open Go.RowKit Go.Proofs.Ytmkgigagfhhgcaa.MFnExactWordsOf Go.Proofs.YtmkgigagfhhgcaaW.PrintWords Go.Proofs.Ytmkgigagfhhgcaa.Base
set_option linter.unusedVariables false
set_option linter.unusedSimpArgs false
/-! ### Is it an order? -/
theorem in_ev (a b c : Int) : Ev (fun _ => spec_l1In.f a b c) (decide (b ≤ a) && decide (a ≤ c)) := by
  unfold spec_l1In.f
  by_cases h : a ≥ b
  · refine ev_pos h (ev_now ?_)
    have : decide (b ≤ a) = true := decide_eq_true h
    rw [this]; rfl
  · refine ev_neg h (ev_now ?_)
    have : decide (b ≤ a) = false := decide_eq_false (by omega)
    rw [this]; rfl

theorem isSize_ev (n : Int) : Ev (fun _ => impl_isSize.f n) (decide (1 ≤ n) && decide (n ≤ 7)) := by
  unfold impl_isSize.f
  by_cases h : n ≥ 1
  · refine ev_pos h (ev_now ?_)
    have : decide (1 ≤ n) = true := decide_eq_true h
    rw [this]; rfl
  · refine ev_neg h (ev_now ?_)
    have : decide (1 ≤ n) = false := decide_eq_false (by omega)
    rw [this]; rfl

/-! ### laws.markText, markStringS, heldStringS, eqStringS -/
theorem markText_l : ∀ (n : Nat) (x : Int) (t : ByteArray), 0 ≤ x → x.toNat ≤ n → t.size + n ≤ 4611686018427387904 → ∃ r, Ev (fun k => laws_markText.l0 k x t) r := by
  intro n
  induction n using Nat.strongRecOn with
  | _ n ih =>
    intro x t h0 h1 h2
    by_cases hx : x > 0
    · have hq : Int.tdiv x 10 = x / 10 := by rw [Int.tdiv_eq_ediv_of_nonneg h0]
      have hs : (strOfNums [(wrap64 (48 + (Int.tmod x 10))) % 256]).size = 1 := by rw [str_size]; rfl
      have hsz : (strOfNums [(wrap64 (48 + (Int.tmod x 10))) % 256] ++ t).size = 1 + t.size := by rw [ByteArray.size_append, hs]
      obtain ⟨r, hr⟩ := ih (n - 1) (by omega) (x / 10) (strOfNums [(wrap64 (48 + (Int.tmod x 10))) % 256] ++ t) (by omega) (by omega) (by omega)
      refine ⟨r, ev_succ ?_⟩
      simp only [laws_markText.l0.eq_2]
      refine ev_pos hx (ev_let (ev_pos (by omega) ?_))
      rw [hq, wrap_of (by omega) (by omega)]
      exact hr
    · refine ⟨(⟨#[109]⟩ : ByteArray) ++ t, ev_succ ?_⟩
      simp only [laws_markText.l0.eq_2]
      exact ev_neg hx (ev_pos (by omega) (ev_now rfl))
theorem markText_some : ∃ mt : Int → ByteArray, ∀ x, 0 ≤ x → x ≤ 2305843009213693952 → Ev (fun k => laws_markText.f k x) (mt x) := by
  have key : ∀ x : Int, ∃ r, 0 ≤ x → x ≤ 2305843009213693952 → Ev (fun k => laws_markText.f k x) r := by
    intro x
    by_cases h : 0 ≤ x ∧ x ≤ 2305843009213693952
    · unfold laws_markText.f
      by_cases h0 : x ≤ 0
      · exact ⟨_, fun _ _ => ev_pos h0 (ev_now rfl)⟩
      · obtain ⟨r, hr⟩ := markText_l x.toNat x (⟨#[]⟩ : ByteArray) h.1 (Nat.le_refl _) (by have : ((⟨#[]⟩ : ByteArray)).size = 0 := rfl; omega)
        exact ⟨r, fun _ _ => ev_neg h0 hr⟩
    · exact ⟨ByteArray.empty, fun h0 h1 => absurd ⟨h0, h1⟩ h⟩
  exact ⟨fun x => Classical.choose (key x), fun x => Classical.choose_spec (key x)⟩
theorem markS_l (mt : Int → ByteArray) (hm : ∀ x, 0 ≤ x → x ≤ 2305843009213693952 → Ev (fun k => laws_markText.f k x) (mt x)) : ∀ (suf pre : List ByteArray) (x : Int), 0 ≤ x → x + suf.length ≤ 2305843009213693952 → pre.length + suf.length ≤ 2305843009213693952 → Ev (fun k => laws_markStringS.l0 k (pre ++ suf) x (pre.length : Int)) (x + suf.length, pre ++ (iota x suf.length).map mt) := by
  intro suf
  induction suf with
  | nil =>
    intro pre x h0 h1 h2
    refine ev_succ ?_
    simp only [laws_markStringS.l0.eq_2]
    refine ev_neg (by simp) ?_
    exact ev_now (by simp [iota])
  | cons c suf ih =>
    intro pre x h0 h1 h2
    simp only [List.length_cons] at h1 h2
    refine ev_succ ?_
    simp only [laws_markStringS.l0.eq_2]
    refine ev_pos (by simp; omega) (ev_bind (hm x h0 (by omega)) (ev_pos (by omega) ?_))
    have e2 : (pre ++ c :: suf).set ((pre.length : Int)).toNat (mt x) = (pre ++ [mt x]) ++ suf := by simp
    rw [wrap_snoc (pre := pre) (c := mt x) (by omega), e2, wrap_of (x := x + 1) (by omega) (by omega)]
    refine ev_eq (ih (pre ++ [mt x]) (x + 1) (by omega) (by omega) (by simp; omega)) ?_
    simp [iota]; omega
theorem heldS_l (mt : Int → ByteArray) (hm : ∀ x, 0 ≤ x → x ≤ 2305843009213693952 → Ev (fun k => laws_markText.f k x) (mt x)) : ∀ (n : Nat) (pre : List ByteArray) (x : Int), 0 ≤ x → x + n ≤ 2305843009213693952 → pre.length + n ≤ 2305843009213693952 → Ev (fun k => laws_heldStringS.l0 k (pre ++ (iota x n).map mt) x (pre.length : Int)) (x + n) := by
  intro n
  induction n with
  | zero =>
    intro pre x h0 h1 h2
    refine ev_succ ?_
    simp only [laws_heldStringS.l0.eq_2]
    refine ev_neg (by simp [iota]) ?_
    exact ev_now (by simp)
  | succ n ih =>
    intro pre x h0 h1 h2
    refine ev_succ ?_
    simp only [laws_heldStringS.l0.eq_2, iota, List.map_cons, rdOf_mid rfl]
    refine ev_pos (by simp; omega) (ev_pos (by omega) (ev_bind (hm x h0 (by omega)) (ev_pos rfl ?_)))
    rw [wrap_snoc (pre := pre) (c := mt x) (by omega), wrap_of (x := x + 1) (by omega) (by omega), show pre ++ mt x :: (iota (x + 1) n).map mt = (pre ++ [mt x]) ++ (iota (x + 1) n).map mt by simp]
    refine ev_eq (ih (pre ++ [mt x]) (x + 1) (by omega) (by omega) (by simp; omega)) ?_
    omega
/-- Marks are held: whatever the list is. -/
theorem marked (l : List ByteArray) (hl : l.length ≤ 1152921504606846976) : ∃ m : List ByteArray, Ev (fun k => laws_markStringS.f k l 1) (1 + l.length, m) ∧ Ev (fun k => laws_heldStringS.f k m 1) (1 + l.length) := by
  obtain ⟨mt, hm⟩ := markText_some
  refine ⟨(iota 1 l.length).map mt, ?_, ?_⟩
  · have := markS_l mt hm l [] 1 (by omega) (by omega) (by simp; omega)
    unfold laws_markStringS.f
    simpa using this
  · have := heldS_l mt hm l.length [] 1 (by omega) (by omega) (by simp; omega)
    unfold laws_heldStringS.f
    simpa using this
theorem eqS_l (a : List ByteArray) (hl : a.length ≤ 1152921504606846976) : ∀ (suf pre : List ByteArray), a = pre ++ suf → Ev (fun k => laws_eqStringS.l0 k a a (pre.length : Int)) true := by
  intro suf
  induction suf with
  | nil =>
    intro pre e
    have h := len_end e
    refine ev_succ ?_
    simp only [laws_eqStringS.l0.eq_2]
    exact ev_neg (by omega) (ev_now rfl)
  | cons c suf ih =>
    intro pre e
    have h := len_mid e
    refine ev_succ ?_
    simp only [laws_eqStringS.l0.eq_2]
    refine ev_pos (by omega) (ev_pos (by omega) (ev_pos (by omega) (ev_pos trivial ?_)))
    rw [wrap_snoc (pre := pre) (c := c) (by omega)]
    exact ih _ (snoc_mid e)
theorem eqS_ev (a : List ByteArray) (hl : a.length ≤ 1152921504606846976) : Ev (fun k => laws_eqStringS.f k a a) true := by
  unfold laws_eqStringS.f
  exact ev_pos rfl (eqS_l a hl a [] rfl)

/-! ### WordsOf -/
theorem spec_words_r : ∀ (r a b n : Nat) (so : List Int), a + b = r → a ≤ b → so.length + r = 2 * n → n ≤ 7 → Ev (fun k => spec_l2Words.f k (strOfNums so) ((b - a : Nat) : Int) (n : Int)) ((wordsC r a b).map (fun w => strOfNums (so ++ w))) := by
  intro r
  induction r with
  | zero =>
    intro a b n so h1 h2 h3 h4
    refine ev_succ ?_
    simp only [spec_l2Words.f.eq_2]
    refine ev_let ?_
    rw [wrap_of (by omega) (by omega), str_size]
    exact ev_pos (by omega) (ev_now (by simp [wordsC]))
  | succ r ih =>
    intro a b n so h1 h2 h3 h4
    refine ev_succ ?_
    simp only [spec_l2Words.f.eq_2]
    refine ev_let ?_
    rw [wrap_of (x := 2 * (n : Int)) (by omega) (by omega), str_size, wrap_of (x := 2 * (n : Int) - (so.length : Int)) (by omega) (by omega)]
    have hl1 := wordsC_length r (a - 1) b
    have hl2 := wordsC_length r a (b - 1)
    have hp : (2 : Nat) ^ r ≤ 2 ^ 14 := Nat.pow_le_pow_right (by omega) (by omega)
    have h14 : (2 : Nat) ^ 14 = 16384 := by decide
    refine ev_neg (by omega) ?_
    have hO : b > a → Ev (fun k => spec_l2Words.f k (strOfNums so ++ (⟨#[79]⟩ : ByteArray)) (wrap64 (((b - a : Nat) : Int) - 1)) (n : Int)) ((wordsC r a (b - 1)).map (fun w => strOfNums (so ++ 79 :: w))) := by
      intro hba
      rw [str_snocO, wrap_of (by omega) (by omega), show ((b - a : Nat) : Int) - 1 = ((b - 1 - a : Nat) : Int) by omega]
      refine ev_eq (ih a (b - 1) n (so ++ [79]) (by omega) (by omega) (by simp; omega) h4) ?_
      simp
    by_cases ha : a > 0
    · refine ev_pos (by omega) (ev_pos (by omega) ?_)
      have hI : Ev (fun k => spec_l2Words.f k (strOfNums so ++ (⟨#[73]⟩ : ByteArray)) (wrap64 (((b - a : Nat) : Int) + 1)) (n : Int)) ((wordsC r (a - 1) b).map (fun w => strOfNums (so ++ 73 :: w))) := by
        rw [str_snocI, wrap_of (by omega) (by omega), show ((b - a : Nat) : Int) + 1 = ((b - (a - 1) : Nat) : Int) by omega]
        refine ev_eq (ih (a - 1) b n (so ++ [73]) (by omega) (by omega) (by simp; omega) h4) ?_
        simp
      refine ev_bind hI (ev_pos (by simp; omega) (ev_let ?_))
      by_cases hb : b > a
      · refine ev_pos (by omega) (ev_bind (hO hb) (ev_pos (by simp; omega) (ev_now ?_)))
        simp [wordsC, ha, hb, List.map_map, Function.comp_def]
      · refine ev_neg (by omega) (ev_now ?_)
        simp [wordsC, ha, hb, List.map_map, Function.comp_def]
    · refine ev_neg (by omega) ?_
      by_cases hb : b > a
      · refine ev_pos (by omega) (ev_pos (by omega) (ev_bind (hO hb) (ev_pos (by simp; omega) (ev_now ?_))))
        simp [wordsC, ha, hb, List.map_map, Function.comp_def]
      · omega
theorem spec_words_ev (n : Int) : Ev (fun k => spec_WordsOf.f k n) (wordsR n) := by
  unfold spec_WordsOf.f wordsR
  refine ev_bind (in_ev _ _ _) ?_
  by_cases h : 1 ≤ n ∧ n ≤ 7
  · rw [if_pos h]
    refine ev_pos (by simp; omega) (ev_bind (a := (wordsC (n.toNat + n.toNat) n.toNat n.toNat).map strOfNums) ?_ (ev_now rfl))
    have := spec_words_r (n.toNat + n.toNat) n.toNat n.toNat n.toNat [] rfl (Nat.le_refl _) (by simp; omega) (by omega)
    rw [str_nil, show ((n.toNat : Nat) : Int) = n by omega, show ((n.toNat - n.toNat : Nat) : Int) = 0 by omega] at this
    exact this
  · rw [if_neg h]
    exact ev_neg (by simp; omega) (ev_now rfl)
theorem impl_words_r : ∀ (r a b : Nat) (so : List Int) (list : List ByteArray), a + b = r → a ≤ b → so.length + r ≤ 14 → list.length + 2 ^ r ≤ 1048576 → Ev (fun k => impl_words.f k (strOfNums so) (a : Int) (b : Int) list) (list ++ (wordsC r a b).map (fun w => strOfNums (so ++ w))) := by
  intro r
  induction r with
  | zero =>
    intro a b so list h1 h2 h3 h4
    refine ev_succ ?_
    simp only [impl_words.f.eq_2]
    refine ev_pos (by omega) (ev_succ ?_)
    simp only [impl_words.j0.eq_2]
    exact ev_pos (by simp; omega) (ev_pos (by omega) (ev_now (by simp [wordsC])))
  | succ r ih =>
    intro a b so list h1 h2 h3 h4
    have hp : (2 : Nat) ^ (r + 1) = 2 ^ r + 2 ^ r := by rw [Nat.pow_succ]; omega
    have hl1 := wordsC_length r (a - 1) b
    have key : ∀ q : Bool, q = false → Ev (fun k => impl_words.j0 k (strOfNums so) (a : Int) (b : Int) list q) (list ++ (wordsC (r + 1) a b).map (fun w => strOfNums (so ++ w))) := by
      intro q hq
      refine ev_succ ?_
      simp only [impl_words.j0.eq_2]
      refine ev_neg (by simp [hq]) ?_
      rw [str_size]
      have hO : b > a → ∀ l2 : List ByteArray, l2.length + 2 ^ r ≤ 1048576 → Ev (fun k => impl_words.f k (strOfNums so ++ (⟨#[79]⟩ : ByteArray)) (a : Int) (wrap64 ((b : Int) - 1)) l2) (l2 ++ (wordsC r a (b - 1)).map (fun w => strOfNums (so ++ 79 :: w))) := by
        intro hba l2 hl2
        rw [str_snocO, wrap_of (by omega) (by omega), show (b : Int) - 1 = ((b - 1 : Nat) : Int) by omega]
        refine ev_eq (ih a (b - 1) (so ++ [79]) l2 (by omega) (by omega) (by simp; omega) hl2) ?_
        simp
      by_cases ha : a > 0
      · refine ev_pos (by omega) (ev_pos (by omega) ?_)
        have hI : Ev (fun k => impl_words.f k (strOfNums so ++ (⟨#[73]⟩ : ByteArray)) (wrap64 ((a : Int) - 1)) (b : Int) list) (list ++ (wordsC r (a - 1) b).map (fun w => strOfNums (so ++ 73 :: w))) := by
          rw [str_snocI, wrap_of (by omega) (by omega), show (a : Int) - 1 = ((a - 1 : Nat) : Int) by omega]
          refine ev_eq (ih (a - 1) b (so ++ [73]) list (by omega) (by omega) (by simp; omega) (by omega)) ?_
          simp
        refine ev_bind hI ?_
        by_cases hb : b > a
        · refine ev_pos (by omega) (ev_bind (hO hb _ (by simp; omega)) (ev_now ?_))
          simp [wordsC, ha, hb, List.map_map, Function.comp_def]
        · refine ev_neg (by omega) (ev_now ?_)
          simp [wordsC, ha, hb, List.map_map, Function.comp_def]
      · refine ev_neg (by omega) ?_
        by_cases hb : b > a
        · refine ev_pos (by omega) (ev_pos (by omega) (ev_bind (hO hb _ (by omega)) (ev_now ?_)))
          simp [wordsC, ha, hb, List.map_map, Function.comp_def]
        · omega
    refine ev_succ ?_
    simp only [impl_words.f.eq_2]
    by_cases ha : (a : Int) = 0
    · exact ev_pos ha (key _ (by simp; omega))
    · exact ev_neg ha (key _ rfl)
theorem impl_words_ev (n : Int) : Ev (fun k => impl_WordsOf.f k n) (wordsR n) := by
  unfold impl_WordsOf.f wordsR
  refine ev_bind (isSize_ev _) ?_
  by_cases h : 1 ≤ n ∧ n ≤ 7
  · rw [if_pos h]
    refine ev_pos (by simp; omega) (ev_bind (a := (wordsC (n.toNat + n.toNat) n.toNat n.toNat).map strOfNums) ?_ (ev_now rfl))
    have h2 : (2 : Nat) ^ (n.toNat + n.toNat) ≤ 2 ^ 14 := Nat.pow_le_pow_right (by omega) (by omega)
    have h3 : (2 : Nat) ^ 14 = 16384 := by decide
    have := impl_words_r (n.toNat + n.toNat) n.toNat n.toNat [] [] rfl (Nat.le_refl _) (by simp; omega) (by simp; omega)
    rw [str_nil, show ((n.toNat : Nat) : Int) = n by omega] at this
    exact this
  · rw [if_neg h]
    exact ev_neg (by simp; omega) (ev_now rfl)

theorem FnExactWordsOf : laws_FnExactWordsOf.Pure := by
  intro n hn
  apply Ev.rounds (r := true)
  have hl := wordsR_length n
  obtain ⟨m, hm, hh⟩ := marked (wordsR n).1 (by omega)
  have he := eqS_ev (wordsR n).1 (by omega)
  unfold laws_FnExactWordsOf.f
  refine ev_bind (spec_words_ev n) (ev_bind (impl_words_ev n) (ev_bind he (ev_pos rfl ?_)))
  refine ev_succ ?_
  simp only [laws_FnExactWordsOf.j0.eq_2]
  refine ev_neg (by simp) (ev_bind hm (ev_bind hh (ev_neg (by omega) (ev_pos rfl (ev_bind (impl_words_ev n) (ev_bind he (ev_pos rfl ?_)))))))
  refine ev_succ ?_
  simp only [laws_FnExactWordsOf.j1.eq_2]
  exact ev_neg (by simp) (ev_bind hh (ev_neg (by omega) (ev_pos rfl (ev_now rfl))))
end Go.Proofs.Ytmkgigagfhhgcaa.Pure
