/- The pure statement of FnExactJoinStrings: program and reference join alike. No condition. -/
import Derived.Test.YtdiecblalplalaaMFnExactJoinStringsx2
import Derived.Test.YtdiecblalplalaaBase
import Derived.Test.YtdiecblalplalaaBaseStr
namespace Go.Proofs.Ytdiecblalplalaa.Pure
open Go Go.RowKit Go.Proofs.Ytdiecblalplalaa.MFnExactJoinStrings Go.Proofs.YtdiecblalplalaaW.PrintWords Go.Proofs.Ytdiecblalplalaa.Base
set_option linter.unusedVariables false
set_option linter.unusedSimpArgs false
/-! ### laws.toStringS, laws.eqStringS, laws.szStringS -/
theorem rdS_mid {l pre suf : List ByteArray} {c : ByteArray} (h : l = pre ++ c :: suf) : rdOf ByteArray.empty l (pre.length : Int) = c := by rw [h]; simp [rdOf]
theorem lenS_mid {l pre suf : List ByteArray} {c : ByteArray} (h : l = pre ++ c :: suf) : (l.length : Int) = pre.length + 1 + suf.length := by rw [h]; simp; omega
theorem lenS_end {l pre : List ByteArray} (h : l = pre ++ []) : (l.length : Int) = pre.length := by rw [h]; simp
theorem wrapS_snoc {pre : List ByteArray} {c : ByteArray} (h : pre.length ≤ 1000000000) : wrap64 ((pre.length : Int) + 1) = ((pre ++ [c]).length : Int) := by
  rw [wrap_of (by omega) (by omega)]; simp
theorem toS_l (l : List ByteArray) (hl : l.length ≤ 1048576) : ∀ (suf pre : List ByteArray), l = pre ++ suf → Ev (fun k => laws_toStringS.l0 k l (pre ++ List.replicate suf.length (⟨#[]⟩ : ByteArray)) (pre.length : Int)) l := by
  intro suf
  induction suf with
  | nil =>
    intro pre e
    have h := lenS_end e
    refine ev_succ ?_
    simp only [laws_toStringS.l0.eq_2]
    refine ev_neg (by omega) ?_
    exact ev_now (by rw [e]; simp)
  | cons c suf ih =>
    intro pre e
    have h := lenS_mid e
    refine ev_succ ?_
    simp only [laws_toStringS.l0.eq_2, rdS_mid e]
    refine ev_pos (by omega) (ev_pos (by omega) (ev_pos (by simp; omega) ?_))
    rw [wrapS_snoc (pre := pre) (c := c) (by omega)]
    have e2 : (pre ++ List.replicate (c :: suf).length (⟨#[]⟩ : ByteArray)).set ((pre.length : Int)).toNat c = (pre ++ [c]) ++ List.replicate suf.length (⟨#[]⟩ : ByteArray) := by
      simp [List.replicate_succ]
    rw [e2]
    exact ih _ (by rw [e]; simp)
theorem toS_ev (l : List ByteArray) (hl : l.length ≤ 1048576) : Ev (fun k => laws_toStringS.f k l) l := by
  unfold laws_toStringS.f
  refine ev_pos (by omega) (ev_pos (by omega) ?_)
  have := toS_l l hl l [] rfl
  simpa using this
theorem eqS_l (l : List ByteArray) (hl : l.length ≤ 1048576) : ∀ (suf pre : List ByteArray), l = pre ++ suf → Ev (fun k => laws_eqStringS.l0 k l l (pre.length : Int)) true := by
  intro suf
  induction suf with
  | nil =>
    intro pre e
    have h := lenS_end e
    refine ev_succ ?_
    simp only [laws_eqStringS.l0.eq_2]
    exact ev_neg (by omega) (ev_now rfl)
  | cons c suf ih =>
    intro pre e
    have h := lenS_mid e
    refine ev_succ ?_
    simp only [laws_eqStringS.l0.eq_2, rdS_mid e]
    rw [wrapS_snoc (pre := pre) (c := c) (by omega)]
    exact ev_pos (by omega) (ev_pos (by omega) (ev_pos (by omega) (ev_pos trivial (ih _ (by rw [e]; simp)))))
theorem eqS_ev (l : List ByteArray) (hl : l.length ≤ 1048576) : Ev (fun k => laws_eqStringS.f k l l) true := by
  unfold laws_eqStringS.f
  exact ev_pos rfl (eqS_l l hl l [] rfl)
theorem szS_l (l : List ByteArray) (hl : l.length ≤ 1048576) (hm : ∀ s ∈ l, s.size ≤ maxLen) : ∀ (suf pre : List ByteArray) (n : Int), l = pre ++ suf → 0 ≤ n → n ≤ 1048576 → ∃ v, Ev (fun k => laws_szStringS.l0 k l n (pre.length : Int)) v ∧ (v < 0 ∨ ∀ s ∈ suf, (s.size : Int) ≤ 1048576) := by
  intro suf
  induction suf with
  | nil =>
    intro pre n e h0 h1
    have h := lenS_end e
    refine ⟨n, ev_succ ?_, .inr (by simp)⟩
    simp only [laws_szStringS.l0.eq_2]
    exact ev_neg (by omega) (ev_now rfl)
  | cons c suf ih =>
    intro pre n e h0 h1
    have h := lenS_mid e
    have hc := hm c (by rw [e]; simp)
    unfold maxLen at hc
    by_cases hv : n - (c.size : Int) < 0
    · refine ⟨-1, ev_succ ?_, .inl (by omega)⟩
      simp only [laws_szStringS.l0.eq_2, rdS_mid e]
      rw [wrap_of (x := n - (c.size : Int)) (by omega) (by omega)]
      exact ev_pos (by omega) (ev_pos (by omega) (ev_pos hv (ev_now rfl)))
    · obtain ⟨v, hv1, hv2⟩ := ih (pre ++ [c]) (n - (c.size : Int)) (by rw [e]; simp) (by omega) (by omega)
      refine ⟨v, ev_succ ?_, hv2.imp id (fun hh s hs => ?_)⟩
      · simp only [laws_szStringS.l0.eq_2, rdS_mid e]
        rw [wrap_of (x := n - (c.size : Int)) (by omega) (by omega), wrapS_snoc (pre := pre) (c := c) (by omega)]
        exact ev_pos (by omega) (ev_pos (by omega) (ev_neg hv hv1))
      · rcases List.mem_cons.1 hs with rfl | hs
        · omega
        · exact hh s hs
theorem szS_ev (l : List ByteArray) (hl : l.length ≤ maxLen) (hm : ∀ s ∈ l, s.size ≤ maxLen) : ∃ v, Ev (fun k => laws_szStringS.f k l 1048576) v ∧ (v < 0 ∨ l.length ≤ 1048576 ∧ ∀ s ∈ l, (s.size : Int) ≤ 1048576) := by
  unfold maxLen at hl
  by_cases h : (1048576 : Int) - (l.length : Int) < 0
  · refine ⟨-1, ?_, .inl (by omega)⟩
    unfold laws_szStringS.f
    rw [wrap_of (x := (1048576 : Int) - (l.length : Int)) (by omega) (by omega)]
    exact ev_pos h (ev_now rfl)
  · obtain ⟨v, hv, hq⟩ := szS_l l (by omega) hm l [] (1048576 - (l.length : Int)) rfl (by omega) (by omega)
    refine ⟨v, ?_, hq.imp id (fun hh => ⟨by omega, hh⟩)⟩
    unfold laws_szStringS.f
    rw [wrap_of (x := (1048576 : Int) - (l.length : Int)) (by omega) (by omega)]
    exact ev_neg h hv

/-! ### spec.JoinStrings, impl.JoinStrings -/
def hasB (s : ByteArray) (b : UInt8) : Bool := decide (0 ≤ Lib.indexByte s.data.toList b)
theorem index_any (b : UInt8) : ∀ l : List UInt8, decide (0 ≤ Lib.indexByte l b) = l.any (fun x => x == b) := by
  intro l
  induction l with
  | nil => rfl
  | cons x l ih =>
    have hg := Lib.indexByte_ge l b
    simp only [Lib.indexByte, List.any_cons, ← ih]
    by_cases hx : x == b
    · simp [hx]
    · simp only [hx, Bool.false_eq_true, if_false, Bool.false_or]
      by_cases h1 : Lib.indexByte l b == -1
      · have := eq_of_beq h1; simp [this]
      · have h2 : Lib.indexByte l b ≠ -1 := fun e => h1 (by simp [e])
        rw [if_neg h1]
        have : (0 ≤ Lib.indexByte l b + 1) ↔ (0 ≤ Lib.indexByte l b) := by omega
        simp [this]
theorem stands_l (s : ByteArray) (b : UInt8) (hl : s.size ≤ 1048576) : ∀ (suf pre : List Int), bytesOf s = pre ++ suf → Ev (fun k => spec_l1Stands.l0 k s (b.toNat : Int) (pre.length : Int)) (suf.any (fun x => decide (x = (b.toNat : Int)))) := by
  intro suf
  induction suf with
  | nil =>
    intro pre e
    have h := size_end e
    refine ev_succ ?_
    simp only [spec_l1Stands.l0.eq_2]
    exact ev_neg (by omega) (ev_now rfl)
  | cons c suf ih =>
    intro pre e
    have h := size_mid e
    refine ev_succ ?_
    simp only [spec_l1Stands.l0.eq_2, bt_mid e]
    rw [wrap_snoc (pre := pre) (c := c) (by omega)]
    refine ev_pos (by omega) (ev_pos (by omega) ?_)
    by_cases hc : c = (b.toNat : Int)
    · exact ev_pos hc (ev_now (by simp [hc]))
    · exact ev_neg hc (ev_eq (ih _ (snoc_mid e)) (by simp [hc]))
theorem stands_ev (s : ByteArray) (b : UInt8) (hl : s.size ≤ 1048576) : Ev (fun k => spec_l1Stands.f k s (b.toNat : Int)) (hasB s b) := by
  unfold spec_l1Stands.f
  refine ev_eq (stands_l s b hl (bytesOf s) [] rfl) ?_
  unfold hasB
  rw [index_any, show bytesOf s = s.data.toList.map (fun x => (x.toNat : Int)) from rfl, List.any_map]
  congr 1
  funext x
  simp only [Function.comp]
  rw [Bool.eq_iff_iff]
  simp only [decide_eq_true_eq, beq_iff_eq]
  constructor
  · intro h; exact UInt8.toNat_inj.1 (by omega)
  · rintro rfl; rfl
def sumS : List ByteArray → Nat
  | [] => 0
  | c :: s => c.size + sumS s
def tailS (t acc : ByteArray) : List ByteArray → ByteArray
  | [] => acc
  | c :: s => tailS t ((acc ++ t) ++ c) s
theorem app_size (a b : ByteArray) : (a ++ b).size = a.size + b.size := by simp
theorem join_l (l : List ByteArray) (hl : l.length ≤ 1048576) (hm : ∀ s ∈ l, (s.size : Int) ≤ 1048576) (b : UInt8) : ∀ (suf pre : List ByteArray) (acc : ByteArray), l = pre ++ suf → 1 ≤ pre.length → acc.size ≤ 4000 →
    Ev (fun k => spec_JoinStrings.l0 k l (⟨#[b]⟩ : ByteArray) acc (pre.length : Int)) (if (suf.all (fun c => !hasB c b)) = true ∧ acc.size + sumS suf + suf.length ≤ 4000 then (tailS ⟨#[b]⟩ acc suf, true) else (⟨#[]⟩, false)) := by
  intro suf
  induction suf with
  | nil =>
    intro pre acc e hp ha
    have h := lenS_end e
    refine ev_succ ?_
    simp only [spec_JoinStrings.l0.eq_2]
    refine ev_neg (by omega) (ev_now ?_)
    rw [if_pos ⟨rfl, by simp [sumS]; omega⟩]; rfl
  | cons c suf ih =>
    intro pre acc e hp ha
    have h := lenS_mid e
    have hc := hm c (by rw [e]; simp)
    have hb : bt (⟨#[b]⟩ : ByteArray) 0 = (b.toNat : Int) := bt_mid (pre := []) (suf := []) rfl
    have hs1 : (⟨#[b]⟩ : ByteArray).size = 1 := rfl
    refine ev_succ ?_
    simp only [spec_JoinStrings.l0.eq_2, rdS_mid e, hb]
    rw [wrapS_snoc (pre := pre) (c := c) (by omega)]
    refine ev_pos (by omega) (ev_pos (by omega) (ev_pos (by rw [hs1]; omega) (ev_bind (stands_ev c b (by omega)) ?_)))
    by_cases hv : hasB c b = true
    · refine ev_pos hv (ev_now ?_)
      rw [if_neg (fun hh => by simp [hv] at hh)]
    · have hz : ((acc ++ (⟨#[b]⟩ : ByteArray)) ++ c).size = acc.size + 1 + c.size := by rw [app_size, app_size, hs1]
      refine ev_neg hv (ev_pos (by omega) (ev_pos (by rw [hs1]; omega) (ev_pos (by rw [app_size, hs1]; omega) ?_)))
      rw [hz]
      by_cases h4 : ((acc.size + 1 + c.size : Nat) : Int) > 4000
      · refine ev_pos h4 (ev_now ?_)
        rw [if_neg (fun hh => by have := hh.2; simp only [sumS, List.length_cons] at this; omega)]
      · refine ev_neg h4 (ev_eq (ih (pre ++ [c]) _ (by rw [e]; simp) (by simp) (by rw [hz]; omega)) ?_)
        rw [hz]
        have hv' : hasB c b = false := by simpa using hv
        by_cases hq : (suf.all (fun c => !hasB c b)) = true ∧ acc.size + 1 + c.size + sumS suf + suf.length ≤ 4000
        · rw [if_pos hq, if_pos ⟨by simp only [List.all_cons, hv', Bool.not_false, Bool.true_and]; exact hq.1, by simp only [sumS, List.length_cons]; omega⟩]; rfl
        · rw [if_neg hq, if_neg (fun hh => hq ⟨by have := hh.1; simp only [List.all_cons, hv', Bool.not_false, Bool.true_and] at this; exact this, by have := hh.2; simp only [sumS, List.length_cons] at this; omega⟩)]
def jsR (l : List ByteArray) (t : ByteArray) : ByteArray × Bool :=
  if t.size = 1 ∧ 1 ≤ l.length then (if (l.all (fun c => !hasB c (t.data.toList.headD 0))) = true ∧ sumS l + (l.length - 1) ≤ 4000 then (⟨(Lib.join (l.map (·.data.toList)) t.data.toList).toArray⟩, true) else (⟨#[]⟩, false)) else (⟨#[]⟩, false)
theorem tail_data (t : ByteArray) : ∀ (s : List ByteArray) (acc : ByteArray), (tailS t acc s).data.toList = acc.data.toList ++ Lib.joinTail t.data.toList (s.map (·.data.toList)) := by
  intro s
  induction s with
  | nil => intro acc; simp [tailS, Lib.joinTail]
  | cons c s ih =>
    intro acc
    rw [tailS, ih]
    simp [Lib.joinTail, ByteArray.data_append, List.append_assoc]
theorem one_byte {t : ByteArray} (h : t.size = 1) : ∃ b, t = ⟨#[b]⟩ := by
  obtain ⟨⟨l⟩⟩ := t
  cases l with
  | nil => simp [ByteArray.size] at h
  | cons c l =>
    cases l with
    | nil => exact ⟨c, rfl⟩
    | cons _ _ => simp [ByteArray.size] at h
theorem join_data (t : ByteArray) (c : ByteArray) (s : List ByteArray) : (⟨(Lib.join ((c :: s).map (·.data.toList)) t.data.toList).toArray⟩ : ByteArray) = tailS t c s := by
  apply ByteArray.ext
  apply Array.toList_inj.1
  rw [tail_data, List.map_cons, Lib.join_cons]
theorem specJ_ev (l : List ByteArray) (t : ByteArray) (hl : l.length ≤ 1048576) (hm : ∀ s ∈ l, (s.size : Int) ≤ 1048576) : Ev (fun k => spec_JoinStrings.f k l t) (jsR l t) := by
  unfold spec_JoinStrings.f
  by_cases ht : t.size = 1
  · obtain ⟨b, rfl⟩ := one_byte ht
    refine ev_pos (by omega) (ev_succ ?_)
    simp only [spec_JoinStrings.j0.eq_2]
    cases l with
    | nil => exact ev_pos (by simp) (ev_now (by unfold jsR; rw [if_neg (by simp)]))
    | cons c s =>
      refine ev_neg (by simp; omega) (ev_succ ?_)
      have hb : bt (⟨#[b]⟩ : ByteArray) 0 = (b.toNat : Int) := bt_mid (pre := []) (suf := []) rfl
      have hs1 : (⟨#[b]⟩ : ByteArray).size = 1 := rfl
      have hc := hm c (by simp)
      have hr0 : rdOf ByteArray.empty (c :: s) 0 = c := rfl
      have hz : ((⟨#[]⟩ : ByteArray) ++ c) = c := by apply ByteArray.ext; simp [ByteArray.data_append]
      have hz0 : (⟨#[]⟩ : ByteArray).size = 0 := rfl
      simp only [spec_JoinStrings.l0.eq_2, hr0, hb, hz]
      have hd : (⟨#[b]⟩ : ByteArray).data.toList.headD 0 = b := rfl
      refine ev_pos (by simp only [List.length_cons]; omega) (ev_pos (by omega) (ev_pos (by rw [hs1]; omega) (ev_bind (stands_ev c b (by omega)) ?_)))
      have hJ : jsR (c :: s) ⟨#[b]⟩ = (if ((c :: s).all (fun c => !hasB c b)) = true ∧ sumS (c :: s) + s.length ≤ 4000 then (tailS ⟨#[b]⟩ c s, true) else (⟨#[]⟩, false)) := by
        unfold jsR
        rw [if_pos ⟨hs1, by simp⟩, hd, join_data]; rfl
      rw [hJ]
      by_cases hv : hasB c b = true
      · refine ev_pos hv (ev_now ?_)
        rw [if_neg (fun hh => by simp [hv] at hh)]
      · have hv' : hasB c b = false := by simpa using hv
        refine ev_neg hv (ev_neg (by omega) (ev_pos (by rw [hz0]; omega) ?_))
        by_cases h4 : (c.size : Int) > 4000
        · refine ev_pos h4 (ev_now ?_)
          rw [if_neg (fun hh => by have := hh.2; simp only [sumS] at this; omega)]
        · rw [wrap_of (x := (0 : Int) + 1) (by omega) (by omega)]
          refine ev_neg h4 (ev_eq (join_l (c :: s) hl hm b s [c] c rfl (by simp) (by omega)) ?_)
          by_cases hq : (s.all (fun c => !hasB c b)) = true ∧ c.size + sumS s + s.length ≤ 4000
          · rw [if_pos hq, if_pos ⟨by simp only [List.all_cons, hv', Bool.not_false, Bool.true_and]; exact hq.1, by simp only [sumS]; omega⟩]
          · rw [if_neg hq, if_neg (fun hh => hq ⟨by have := hh.1; simp only [List.all_cons, hv', Bool.not_false, Bool.true_and] at this; exact this, by have := hh.2; simp only [sumS] at this; omega⟩)]
  · refine ev_neg (by omega) (ev_succ ?_)
    simp only [spec_JoinStrings.j0.eq_2]
    exact ev_pos trivial (ev_now (by unfold jsR; rw [if_neg (fun hh => ht hh.1)]))
theorem joinI_l (l : List ByteArray) (h1 : 1 ≤ l.length) (hl : l.length ≤ 1048576) (hm : ∀ s ∈ l, (s.size : Int) ≤ 1048576) (b : UInt8) (J : ByteArray) (hJ : sumS l + (l.length - 1) ≤ 4000 → strings_Join.f l ⟨#[b]⟩ = some J) : ∀ (suf pre : List ByteArray) (n : Nat), l = pre ++ suf → n + sumS suf = sumS l + (l.length - 1) → n ≤ 1048576 + 4000 →
    Ev (fun k => impl_JoinStrings.l0 k l (⟨#[b]⟩ : ByteArray) (n : Int) l (l.length : Int) (pre.length : Int)) (if (suf.all (fun c => !hasB c b)) = true ∧ n + sumS suf ≤ 4000 then (J, true) else (⟨#[]⟩, false)) := by
  intro suf
  induction suf with
  | nil =>
    intro pre n e hn hb
    have h := lenS_end e
    refine ev_succ ?_
    simp only [impl_JoinStrings.l0.eq_2]
    refine ev_neg (by omega) ?_
    have hs0 : sumS ([] : List ByteArray) = 0 := rfl
    by_cases h4 : (n : Int) > 4000
    · exact ev_pos h4 (ev_now (by rw [if_neg (fun hh => by have := hh.2; omega)]))
    · refine ev_neg h4 ?_
      rw [hJ (by omega), if_pos ⟨rfl, by omega⟩]
      exact ev_now rfl
  | cons c suf ih =>
    intro pre n e hn hb
    have h := lenS_mid e
    have hc := hm c (by rw [e]; simp)
    refine ev_succ ?_
    simp only [impl_JoinStrings.l0.eq_2, rdS_mid e]
    rw [wrap_of (x := (n : Int) + (c.size : Int)) (by omega) (by omega), wrapS_snoc (pre := pre) (c := c) (by omega)]
    refine ev_pos (by omega) (ev_pos (by omega) (ev_pos (by omega) ?_))
    by_cases h4 : (n : Int) + (c.size : Int) > 4000
    · refine ev_pos h4 (ev_now ?_)
      rw [if_neg (fun hh => by have := hh.2; simp only [sumS] at this; omega)]
    · have hct : strings_Contains.f c ⟨#[b]⟩ = some (hasB c b) := by
        unfold strings_Contains.f
        exact if_pos rfl
      rw [hct]
      refine ev_neg h4 (ev_bind (a := hasB c b) (ev_now rfl) ?_)
      by_cases hv : hasB c b = true
      · refine ev_pos hv (ev_now ?_)
        rw [if_neg (fun hh => by simp [hv] at hh)]
      · have hv' : hasB c b = false := by simpa using hv
        have hn2 := hn
        simp only [sumS] at hn2
        have hih := ih (pre ++ [c]) (n + c.size) (by rw [e]; simp) (by omega) (by omega)
        rw [show (((n + c.size : Nat) : Int)) = (n : Int) + (c.size : Int) by omega] at hih
        refine ev_neg hv (ev_eq hih ?_)
        by_cases hq : (suf.all (fun c => !hasB c b)) = true ∧ n + c.size + sumS suf ≤ 4000
        · rw [if_pos hq, if_pos ⟨by simp only [List.all_cons, hv', Bool.not_false, Bool.true_and]; exact hq.1, by simp only [sumS]; omega⟩]
        · rw [if_neg hq, if_neg (fun hh => hq ⟨by have := hh.1; simp only [List.all_cons, hv', Bool.not_false, Bool.true_and] at this; exact this, by have := hh.2; simp only [sumS] at this; omega⟩)]
theorem tail_size (b : UInt8) : ∀ (s : List ByteArray) (acc : ByteArray), (tailS ⟨#[b]⟩ acc s).size = acc.size + sumS s + s.length := by
  intro s
  induction s with
  | nil => intro acc; simp [tailS, sumS]
  | cons c s ih =>
    intro acc
    rw [tailS, ih, app_size, app_size, show (⟨#[b]⟩ : ByteArray).size = 1 from rfl]
    simp only [sumS, List.length_cons]; omega
theorem implJ_ev (l : List ByteArray) (t : ByteArray) (hl : l.length ≤ 1048576) (hm : ∀ s ∈ l, (s.size : Int) ≤ 1048576) : Ev (fun k => impl_JoinStrings.f k l t) (jsR l t) := by
  unfold impl_JoinStrings.f
  cases l with
  | nil =>
    refine ev_pos rfl (ev_succ ?_)
    simp only [impl_JoinStrings.j0.eq_2]
    exact ev_pos trivial (ev_now (by unfold jsR; rw [if_neg (by simp)]))
  | cons c s =>
    refine ev_neg (by simp; omega) (ev_succ ?_)
    simp only [impl_JoinStrings.j0.eq_2]
    by_cases ht : t.size = 1
    · obtain ⟨b, rfl⟩ := one_byte ht
      have hs1 : (⟨#[b]⟩ : ByteArray).size = 1 := rfl
      have hd : (⟨#[b]⟩ : ByteArray).data.toList.headD 0 = b := rfl
      refine ev_neg (by rw [hs1]; simp) ?_
      simp only [List.length_cons] at hl
      rw [wrap_of (x := ((c :: s).length : Int) - 1) (by simp only [List.length_cons]; omega) (by simp only [List.length_cons]; omega)]
      rw [show ((c :: s).length : Int) - 1 = ((s.length : Nat) : Int) by simp only [List.length_cons]; omega]
      have hJ : sumS (c :: s) + ((c :: s).length - 1) ≤ 4000 → strings_Join.f (c :: s) ⟨#[b]⟩ = some ⟨(Lib.join ((c :: s).map (·.data.toList)) (⟨#[b]⟩ : ByteArray).data.toList).toArray⟩ := by
        intro h4
        have hsz : (Lib.join ((c :: s).map (·.data.toList)) (⟨#[b]⟩ : ByteArray).data.toList).length = (tailS ⟨#[b]⟩ c s).size := by
          rw [← join_data]; simp [ByteArray.size]
        have hts := tail_size b s c
        simp only [sumS, List.length_cons] at h4
        unfold strings_Join.f
        rw [if_pos ⟨by simp, by simp only [List.length_cons]; omega, by rw [hsz, hts]; omega⟩]
      refine ev_eq (joinI_l (c :: s) (by simp) (by simp only [List.length_cons]; omega) hm b _ hJ (c :: s) [] s.length rfl (by simp only [List.length_cons]; omega) (by omega)) ?_
      have hR : jsR (c :: s) ⟨#[b]⟩ = (if ((c :: s).all (fun c => !hasB c b)) = true ∧ sumS (c :: s) + ((c :: s).length - 1) ≤ 4000 then (⟨(Lib.join ((c :: s).map (·.data.toList)) (⟨#[b]⟩ : ByteArray).data.toList).toArray⟩, true) else (⟨#[]⟩, false)) := by
        unfold jsR
        rw [if_pos ⟨hs1, by simp⟩, hd]
      rw [hR]
      by_cases hq : ((c :: s).all (fun c => !hasB c b)) = true ∧ s.length + sumS (c :: s) ≤ 4000
      · rw [if_pos hq, if_pos ⟨hq.1, by simp only [List.length_cons]; omega⟩]
      · rw [if_neg hq, if_neg (fun hh => hq ⟨hh.1, by have := hh.2; simp only [List.length_cons] at this; omega⟩)]
    · refine ev_pos (by simp; omega) (ev_now ?_)
      unfold jsR
      rw [if_neg (fun hh => ht hh.1)]

theorem FnExactJoinStrings : laws_FnExactJoinStrings.Pure := by
  intro l t hl hm ht
  apply Ev.rounds (r := true)
  unfold laws_FnExactJoinStrings.f
  by_cases h1 : (t.size : Int) > 1048576
  · exact ev_pos h1 (ev_now rfl)
  obtain ⟨v, hv, hq⟩ := szS_ev l hl hm
  refine ev_neg h1 (ev_bind hv ?_)
  by_cases h2 : v < 0
  · exact ev_pos h2 (ev_now rfl)
  obtain ⟨hn, hr⟩ := hq.resolve_left h2
  refine ev_neg h2 (ev_bind (toS_ev l hn) (ev_bind (specJ_ev l t hn hr) (ev_bind (toS_ev l hn) (ev_bind (implJ_ev l t hn hr) (ev_pos rfl ?_)))))
  refine ev_succ ?_
  simp only [laws_FnExactJoinStrings.j0.eq_2]
  exact ev_neg (by simp) (ev_bind (toS_ev l hn) (ev_bind (eqS_ev l hn) (ev_pos rfl (ev_now rfl))))
end Go.Proofs.Ytdiecblalplalaa.Pure
