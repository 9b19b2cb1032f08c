/- The pure statement of FnExactSplitString: program and reference split every text alike. No condition. -/
import Derived.Test.YtmkgigagfhhgcaaMFnExactSplitStringx2
import Derived.Test.YtmkgigagfhhgcaaBase
import Derived.Test.YtmkgigagfhhgcaaBaseS
namespace Go.Proofs.Ytmkgigagfhhgcaa.Pure
open Go.RowKit Go.Proofs.Ytmkgigagfhhgcaa.MFnExactSplitString Go.Proofs.YtmkgigagfhhgcaaW.PrintWords Go.Proofs.Ytmkgigagfhhgcaa.Base
set_option linter.unusedVariables false
set_option linter.unusedSimpArgs false
/-! ### laws.markText, markStringS, heldStringS, eqStringS -/
theorem markText_l : ∀ (n : Nat) (x : Int) (t : ByteArray), 0 ≤ x → x.toNat ≤ n → t.size + n ≤ 4611686018427387904 → ∃ r, Ev (fun k => laws_markText.l0 k x t) r := by
  intro n
  induction n using Nat.strongRecOn with
  | _ n ih =>
    intro x t h0 h1 h2
    by_cases hx : x > 0
    · have hq : Int.tdiv x 10 = x / 10 := by rw [Int.tdiv_eq_ediv_of_nonneg h0]
      have hs : (strOfNums [(wrap64 (48 + (Int.tmod x 10))) % 256]).size = 1 := by rw [str_size]; rfl
      have hsz : (strOfNums [(wrap64 (48 + (Int.tmod x 10))) % 256] ++ t).size = 1 + t.size := by rw [ByteArray.size_append, hs]
      obtain ⟨r, hr⟩ := ih (n - 1) (by omega) (x / 10) (strOfNums [(wrap64 (48 + (Int.tmod x 10))) % 256] ++ t) (by omega) (by omega) (by omega)
      refine ⟨r, ev_succ ?_⟩
      simp only [laws_markText.l0.eq_2]
      refine ev_pos hx (ev_let (ev_pos (by omega) ?_))
      rw [hq, wrap_of (by omega) (by omega)]
      exact hr
    · refine ⟨(⟨#[109]⟩ : ByteArray) ++ t, ev_succ ?_⟩
      simp only [laws_markText.l0.eq_2]
      exact ev_neg hx (ev_pos (by omega) (ev_now rfl))
theorem markText_some : ∃ mt : Int → ByteArray, ∀ x, 0 ≤ x → x ≤ 2305843009213693952 → Ev (fun k => laws_markText.f k x) (mt x) := by
  have key : ∀ x : Int, ∃ r, 0 ≤ x → x ≤ 2305843009213693952 → Ev (fun k => laws_markText.f k x) r := by
    intro x
    by_cases h : 0 ≤ x ∧ x ≤ 2305843009213693952
    · unfold laws_markText.f
      by_cases h0 : x ≤ 0
      · exact ⟨_, fun _ _ => ev_pos h0 (ev_now rfl)⟩
      · obtain ⟨r, hr⟩ := markText_l x.toNat x (⟨#[]⟩ : ByteArray) h.1 (Nat.le_refl _) (by have : ((⟨#[]⟩ : ByteArray)).size = 0 := rfl; omega)
        exact ⟨r, fun _ _ => ev_neg h0 hr⟩
    · exact ⟨ByteArray.empty, fun h0 h1 => absurd ⟨h0, h1⟩ h⟩
  exact ⟨fun x => Classical.choose (key x), fun x => Classical.choose_spec (key x)⟩
theorem markS_l (mt : Int → ByteArray) (hm : ∀ x, 0 ≤ x → x ≤ 2305843009213693952 → Ev (fun k => laws_markText.f k x) (mt x)) : ∀ (suf pre : List ByteArray) (x : Int), 0 ≤ x → x + suf.length ≤ 2305843009213693952 → pre.length + suf.length ≤ 2305843009213693952 → Ev (fun k => laws_markStringS.l0 k (pre ++ suf) x (pre.length : Int)) (x + suf.length, pre ++ (iota x suf.length).map mt) := by
  intro suf
  induction suf with
  | nil =>
    intro pre x h0 h1 h2
    refine ev_succ ?_
    simp only [laws_markStringS.l0.eq_2]
    refine ev_neg (by simp) ?_
    exact ev_now (by simp [iota])
  | cons c suf ih =>
    intro pre x h0 h1 h2
    simp only [List.length_cons] at h1 h2
    refine ev_succ ?_
    simp only [laws_markStringS.l0.eq_2]
    refine ev_pos (by simp; omega) (ev_bind (hm x h0 (by omega)) (ev_pos (by omega) ?_))
    have e2 : (pre ++ c :: suf).set ((pre.length : Int)).toNat (mt x) = (pre ++ [mt x]) ++ suf := by simp
    rw [wrap_snoc (pre := pre) (c := mt x) (by omega), e2, wrap_of (x := x + 1) (by omega) (by omega)]
    refine ev_eq (ih (pre ++ [mt x]) (x + 1) (by omega) (by omega) (by simp; omega)) ?_
    simp [iota]; omega
theorem heldS_l (mt : Int → ByteArray) (hm : ∀ x, 0 ≤ x → x ≤ 2305843009213693952 → Ev (fun k => laws_markText.f k x) (mt x)) : ∀ (n : Nat) (pre : List ByteArray) (x : Int), 0 ≤ x → x + n ≤ 2305843009213693952 → pre.length + n ≤ 2305843009213693952 → Ev (fun k => laws_heldStringS.l0 k (pre ++ (iota x n).map mt) x (pre.length : Int)) (x + n) := by
  intro n
  induction n with
  | zero =>
    intro pre x h0 h1 h2
    refine ev_succ ?_
    simp only [laws_heldStringS.l0.eq_2]
    refine ev_neg (by simp [iota]) ?_
    exact ev_now (by simp)
  | succ n ih =>
    intro pre x h0 h1 h2
    refine ev_succ ?_
    simp only [laws_heldStringS.l0.eq_2, iota, List.map_cons, rdOf_mid rfl]
    refine ev_pos (by simp; omega) (ev_pos (by omega) (ev_bind (hm x h0 (by omega)) (ev_pos rfl ?_)))
    rw [wrap_snoc (pre := pre) (c := mt x) (by omega), wrap_of (x := x + 1) (by omega) (by omega), show pre ++ mt x :: (iota (x + 1) n).map mt = (pre ++ [mt x]) ++ (iota (x + 1) n).map mt by simp]
    refine ev_eq (ih (pre ++ [mt x]) (x + 1) (by omega) (by omega) (by simp; omega)) ?_
    omega
/-- Marks are held: whatever the list is. -/
theorem marked (l : List ByteArray) (hl : l.length ≤ 1152921504606846976) : ∃ m : List ByteArray, Ev (fun k => laws_markStringS.f k l 1) (1 + l.length, m) ∧ Ev (fun k => laws_heldStringS.f k m 1) (1 + l.length) := by
  obtain ⟨mt, hm⟩ := markText_some
  refine ⟨(iota 1 l.length).map mt, ?_, ?_⟩
  · have := markS_l mt hm l [] 1 (by omega) (by omega) (by simp; omega)
    unfold laws_markStringS.f
    simpa using this
  · have := heldS_l mt hm l.length [] 1 (by omega) (by omega) (by simp; omega)
    unfold laws_heldStringS.f
    simpa using this
theorem eqS_l (a : List ByteArray) (hl : a.length ≤ 1152921504606846976) : ∀ (suf pre : List ByteArray), a = pre ++ suf → Ev (fun k => laws_eqStringS.l0 k a a (pre.length : Int)) true := by
  intro suf
  induction suf with
  | nil =>
    intro pre e
    have h := len_end e
    refine ev_succ ?_
    simp only [laws_eqStringS.l0.eq_2]
    exact ev_neg (by omega) (ev_now rfl)
  | cons c suf ih =>
    intro pre e
    have h := len_mid e
    refine ev_succ ?_
    simp only [laws_eqStringS.l0.eq_2]
    refine ev_pos (by omega) (ev_pos (by omega) (ev_pos (by omega) (ev_pos trivial ?_)))
    rw [wrap_snoc (pre := pre) (c := c) (by omega)]
    exact ih _ (snoc_mid e)
theorem eqS_ev (a : List ByteArray) (hl : a.length ≤ 1152921504606846976) : Ev (fun k => laws_eqStringS.f k a a) true := by
  unfold laws_eqStringS.f
  exact ev_pos rfl (eqS_l a hl a [] rfl)

/-! ### SplitString -/
theorem spec_split_l (s : ByteArray) (c : Int) (hs : s.size ≤ 4000) : ∀ (suf pre : List Int) (out : List ByteArray) (f : Nat), bytesOf s = pre ++ suf → f ≤ pre.length → out.length ≤ pre.length → Ev (fun k => spec_l1Split.l0 k s c out (f : Int) (pre.length : Int)) (out ++ splitGo s c suf f pre.length) := by
  intro suf
  induction suf with
  | nil =>
    intro pre out f e hf ho
    have h := size_end e
    refine ev_succ ?_
    simp only [spec_l1Split.l0.eq_2]
    refine ev_neg (by omega) (ev_pos (by omega) (ev_pos (by omega) (ev_pos (by omega) (ev_now ?_))))
    simp [splitGo]
  | cons b suf ih =>
    intro pre out f e hf ho
    have h := size_mid e
    refine ev_succ ?_
    simp only [spec_l1Split.l0.eq_2, bt_mid e]
    rw [wrap_snoc (pre := pre) (c := b) (by omega)]
    refine ev_pos (by omega) (ev_pos (by omega) ?_)
    by_cases hb : b = c
    · refine ev_pos hb (ev_pos (by omega) (ev_pos (by omega) (ev_pos (by omega) (ev_pos (by omega) ?_))))
      refine ev_eq (ih _ _ _ (snoc_mid e) (Nat.le_refl _) ?_) ?_
      · simp; omega
      · simp [splitGo, hb]
    · refine ev_neg hb ?_
      refine ev_eq (ih _ _ _ (snoc_mid e) ?_ ?_) ?_
      · simp; omega
      · simp; omega
      · simp [splitGo, hb]
theorem spec_split_ev (s sep : ByteArray) : Ev (fun k => spec_SplitString.f k s sep) (splitR s sep) := by
  unfold spec_SplitString.f splitR
  by_cases h1 : sep.size = 1
  · refine ev_pos (by omega) ?_
    by_cases h2 : (s.size : Int) > 4000
    · refine ev_pos h2 (ev_now ?_)
      rw [if_neg (fun h => by omega)]
    · refine ev_neg h2 (ev_pos (by omega) ?_)
      rw [if_pos ⟨h1, by omega⟩]
      refine ev_bind (a := splitGo s (bt sep 0) (bytesOf s) 0 0) ?_ (ev_now rfl)
      unfold spec_l1Split.f
      exact spec_split_l s (bt sep 0) (by omega) (bytesOf s) [] [] 0 rfl (by simp) (by simp)
  · refine ev_neg (by omega) (ev_now ?_)
    rw [if_neg (fun h => h1 h.1)]
theorem impl_split_l (s sep : ByteArray) (hp : sep.size = 1) (hs : s.size ≤ 4000) : ∀ (suf pre : List Int) (out : List ByteArray) (f : Nat), bytesOf s = pre ++ suf → f ≤ pre.length → out.length ≤ pre.length → Ev (fun k => impl_splitAt.l0 k s sep out (f : Int) (s.size : Int) (pre.length : Int)) (out ++ splitGo s (bt sep 0) suf f pre.length) := by
  intro suf
  induction suf with
  | nil =>
    intro pre out f e hf ho
    have h := size_end e
    refine ev_succ ?_
    simp only [impl_splitAt.l0.eq_2]
    refine ev_neg (by omega) (ev_pos (by omega) (ev_pos (by omega) (ev_pos (by omega) (ev_now ?_))))
    simp [splitGo]
  | cons b suf ih =>
    intro pre out f e hf ho
    have h := size_mid e
    refine ev_succ ?_
    simp only [impl_splitAt.l0.eq_2, bt_mid e]
    rw [wrap_snoc (pre := pre) (c := b) (by omega)]
    refine ev_pos (by omega) (ev_pos (by omega) (ev_pos (by omega) (ev_pos (by omega) ?_)))
    by_cases hb : b = bt sep 0
    · refine ev_pos hb (ev_pos (by omega) (ev_pos (by omega) (ev_pos (by omega) (ev_pos (by omega) ?_))))
      refine ev_eq (ih _ _ _ (snoc_mid e) (Nat.le_refl _) ?_) ?_
      · simp; omega
      · simp [splitGo, hb]
    · refine ev_neg hb ?_
      refine ev_eq (ih _ _ _ (snoc_mid e) ?_ ?_) ?_
      · simp; omega
      · simp; omega
      · simp [splitGo, hb]
theorem impl_split_ev (s sep : ByteArray) : Ev (fun k => impl_SplitString.f k s sep) (splitR s sep) := by
  unfold impl_SplitString.f splitR
  by_cases h2 : (s.size : Int) > 4000
  · refine ev_pos h2 (ev_now ?_)
    rw [if_neg (fun h => by omega)]
  · refine ev_neg h2 ?_
    by_cases h1 : sep.size = 1
    · refine ev_pos (by omega) ?_
      rw [if_pos ⟨h1, by omega⟩]
      refine ev_bind (a := splitGo s (bt sep 0) (bytesOf s) 0 0) ?_ (ev_now rfl)
      unfold impl_splitAt.f
      exact impl_split_l s sep h1 (by omega) (bytesOf s) [] [] 0 rfl (by simp) (by simp)
    · refine ev_neg (by omega) (ev_now ?_)
      rw [if_neg (fun h => h1 h.1)]

theorem FnExactSplitString : laws_FnExactSplitString.Pure := by
  intro s sep hs hsep
  apply Ev.rounds (r := true)
  have hl : (splitR s sep).1.length ≤ 4001 := by
    unfold splitR
    split
    · rename_i h; have := splitGo_length s (bt sep 0) (bytesOf s) 0 0; rw [bytes_len] at this; simp only; omega
    · simp
  obtain ⟨m, hm, hh⟩ := marked (splitR s sep).1 (by omega)
  have he := eqS_ev (splitR s sep).1 (by omega)
  unfold laws_FnExactSplitString.f
  by_cases h1 : (s.size : Int) > 1048576
  · exact ev_pos h1 (ev_now rfl)
  refine ev_neg h1 ?_
  by_cases h2 : (sep.size : Int) > 1048576
  · exact ev_pos h2 (ev_now rfl)
  refine ev_neg h2 (ev_bind (spec_split_ev s sep) (ev_bind (impl_split_ev s sep) (ev_bind he (ev_pos rfl ?_))))
  refine ev_succ ?_
  simp only [laws_FnExactSplitString.j0.eq_2]
  refine ev_neg (by simp) (ev_bind hm (ev_bind hh (ev_neg (by omega) (ev_pos rfl (ev_bind (impl_split_ev s sep) (ev_bind he (ev_pos rfl ?_)))))))
  refine ev_succ ?_
  simp only [laws_FnExactSplitString.j1.eq_2]
  exact ev_neg (by simp) (ev_bind hh (ev_neg (by omega) (ev_pos rfl (ev_now rfl))))
end Go.Proofs.Ytmkgigagfhhgcaa.Pure
