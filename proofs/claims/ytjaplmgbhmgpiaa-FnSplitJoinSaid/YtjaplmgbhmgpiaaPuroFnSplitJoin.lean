/- The pure statement of FnSplitJoin. No condition. -/
import Derived.Test.YtjaplmgbhmgpiaaMFnSplitJoinx3
import Derived.Test.YtjaplmgbhmgpiaaBase
import Derived.Test.YtjaplmgbhmgpiaaBaseS
import Derived.Test.YtjaplmgbhmgpiaaBaseStr
namespace Go.Proofs.Ytjaplmgbhmgpiaa.Pure
open Go Go.RowKit Go.Proofs.Ytjaplmgbhmgpiaa.MFnSplitJoin Go.Proofs.YtjaplmgbhmgpiaaW.PrintWords Go.Proofs.Ytjaplmgbhmgpiaa.Base
set_option linter.unusedVariables false
set_option linter.unusedSimpArgs false
theorem rdS_mid {l pre suf : List ByteArray} {c : ByteArray} (h : l = pre ++ c :: suf) : rdOf ByteArray.empty l (pre.length : Int) = c := by rw [h]; simp [rdOf]
theorem lenS_mid {l pre suf : List ByteArray} {c : ByteArray} (h : l = pre ++ c :: suf) : (l.length : Int) = pre.length + 1 + suf.length := by rw [h]; simp; omega
theorem lenS_end {l pre : List ByteArray} (h : l = pre ++ []) : (l.length : Int) = pre.length := by rw [h]; simp
theorem wrapS_snoc {pre : List ByteArray} {c : ByteArray} (h : pre.length ≤ 1000000000) : wrap64 ((pre.length : Int) + 1) = ((pre ++ [c]).length : Int) := by
  rw [wrap_of (by omega) (by omega)]; simp
/-! ### spec.JoinStrings, impl.JoinStrings -/
/-! ### spec.l1Stands -/
def hasB (s : ByteArray) (b : UInt8) : Bool := decide (0 ≤ Lib.indexByte s.data.toList b)
theorem index_any (b : UInt8) : ∀ l : List UInt8, decide (0 ≤ Lib.indexByte l b) = l.any (fun x => x == b) := by
  intro l
  induction l with
  | nil => rfl
  | cons x l ih =>
    have hg := Lib.indexByte_ge l b
    simp only [Lib.indexByte, List.any_cons, ← ih]
    by_cases hx : x == b
    · simp [hx]
    · simp only [hx, Bool.false_eq_true, if_false, Bool.false_or]
      by_cases h1 : Lib.indexByte l b == -1
      · have := eq_of_beq h1; simp [this]
      · have h2 : Lib.indexByte l b ≠ -1 := fun e => h1 (by simp [e])
        rw [if_neg h1]
        have : (0 ≤ Lib.indexByte l b + 1) ↔ (0 ≤ Lib.indexByte l b) := by omega
        simp [this]

theorem stands_l (s : ByteArray) (b : UInt8) (hl : s.size ≤ 1048576) : ∀ (suf pre : List Int), bytesOf s = pre ++ suf → Ev (fun k => spec_l1Stands.l0 k s (b.toNat : Int) (pre.length : Int)) (suf.any (fun x => decide (x = (b.toNat : Int)))) := by
  intro suf
  induction suf with
  | nil =>
    intro pre e
    have h := size_end e
    refine ev_succ ?_
    simp only [spec_l1Stands.l0.eq_2]
    exact ev_neg (by omega) (ev_now rfl)
  | cons c suf ih =>
    intro pre e
    have h := size_mid e
    refine ev_succ ?_
    simp only [spec_l1Stands.l0.eq_2, bt_mid e]
    rw [wrap_snoc (pre := pre) (c := c) (by omega)]
    refine ev_pos (by omega) (ev_pos (by omega) ?_)
    by_cases hc : c = (b.toNat : Int)
    · exact ev_pos hc (ev_now (by simp [hc]))
    · exact ev_neg hc (ev_eq (ih _ (snoc_mid e)) (by simp [hc]))
theorem stands_ev (s : ByteArray) (b : UInt8) (hl : s.size ≤ 1048576) : Ev (fun k => spec_l1Stands.f k s (b.toNat : Int)) (hasB s b) := by
  unfold spec_l1Stands.f
  refine ev_eq (stands_l s b hl (bytesOf s) [] rfl) ?_
  unfold hasB
  rw [index_any, show bytesOf s = s.data.toList.map (fun x => (x.toNat : Int)) from rfl, List.any_map]
  congr 1
  funext x
  simp only [Function.comp]
  rw [Bool.eq_iff_iff]
  simp only [decide_eq_true_eq, beq_iff_eq]
  constructor
  · intro h; exact UInt8.toNat_inj.1 (by omega)
  · rintro rfl; rfl

def sumS : List ByteArray → Nat
  | [] => 0
  | c :: s => c.size + sumS s
def tailS (t acc : ByteArray) : List ByteArray → ByteArray
  | [] => acc
  | c :: s => tailS t ((acc ++ t) ++ c) s
theorem app_size (a b : ByteArray) : (a ++ b).size = a.size + b.size := by simp
theorem join_l (l : List ByteArray) (hl : l.length ≤ 1048576) (hm : ∀ s ∈ l, (s.size : Int) ≤ 1048576) (b : UInt8) : ∀ (suf pre : List ByteArray) (acc : ByteArray), l = pre ++ suf → 1 ≤ pre.length → acc.size ≤ 4000 →
    Ev (fun k => spec_JoinStrings.l0 k l (⟨#[b]⟩ : ByteArray) acc (pre.length : Int)) (if (suf.all (fun c => !hasB c b)) = true ∧ acc.size + sumS suf + suf.length ≤ 4000 then (tailS ⟨#[b]⟩ acc suf, true) else (⟨#[]⟩, false)) := by
  intro suf
  induction suf with
  | nil =>
    intro pre acc e hp ha
    have h := lenS_end e
    refine ev_succ ?_
    simp only [spec_JoinStrings.l0.eq_2]
    refine ev_neg (by omega) (ev_now ?_)
    rw [if_pos ⟨rfl, by simp [sumS]; omega⟩]; rfl
  | cons c suf ih =>
    intro pre acc e hp ha
    have h := lenS_mid e
    have hc := hm c (by rw [e]; simp)
    have hb : bt (⟨#[b]⟩ : ByteArray) 0 = (b.toNat : Int) := bt_mid (pre := []) (suf := []) rfl
    have hs1 : (⟨#[b]⟩ : ByteArray).size = 1 := rfl
    refine ev_succ ?_
    simp only [spec_JoinStrings.l0.eq_2, rdS_mid e, hb]
    rw [wrapS_snoc (pre := pre) (c := c) (by omega)]
    refine ev_pos (by omega) (ev_pos (by omega) (ev_pos (by rw [hs1]; omega) (ev_bind (stands_ev c b (by omega)) ?_)))
    by_cases hv : hasB c b = true
    · refine ev_pos hv (ev_now ?_)
      rw [if_neg (fun hh => by simp [hv] at hh)]
    · have hz : ((acc ++ (⟨#[b]⟩ : ByteArray)) ++ c).size = acc.size + 1 + c.size := by rw [app_size, app_size, hs1]
      refine ev_neg hv (ev_pos (by omega) (ev_pos (by rw [hs1]; omega) (ev_pos (by rw [app_size, hs1]; omega) ?_)))
      rw [hz]
      by_cases h4 : ((acc.size + 1 + c.size : Nat) : Int) > 4000
      · refine ev_pos h4 (ev_now ?_)
        rw [if_neg (fun hh => by have := hh.2; simp only [sumS, List.length_cons] at this; omega)]
      · refine ev_neg h4 (ev_eq (ih (pre ++ [c]) _ (by rw [e]; simp) (by simp) (by rw [hz]; omega)) ?_)
        rw [hz]
        have hv' : hasB c b = false := by simpa using hv
        by_cases hq : (suf.all (fun c => !hasB c b)) = true ∧ acc.size + 1 + c.size + sumS suf + suf.length ≤ 4000
        · rw [if_pos hq, if_pos ⟨by simp only [List.all_cons, hv', Bool.not_false, Bool.true_and]; exact hq.1, by simp only [sumS, List.length_cons]; omega⟩]; rfl
        · rw [if_neg hq, if_neg (fun hh => hq ⟨by have := hh.1; simp only [List.all_cons, hv', Bool.not_false, Bool.true_and] at this; exact this, by have := hh.2; simp only [sumS, List.length_cons] at this; omega⟩)]
def jsR (l : List ByteArray) (t : ByteArray) : ByteArray × Bool :=
  if t.size = 1 ∧ 1 ≤ l.length then (if (l.all (fun c => !hasB c (t.data.toList.headD 0))) = true ∧ sumS l + (l.length - 1) ≤ 4000 then (⟨(Lib.join (l.map (·.data.toList)) t.data.toList).toArray⟩, true) else (⟨#[]⟩, false)) else (⟨#[]⟩, false)
theorem tail_data (t : ByteArray) : ∀ (s : List ByteArray) (acc : ByteArray), (tailS t acc s).data.toList = acc.data.toList ++ Lib.joinTail t.data.toList (s.map (·.data.toList)) := by
  intro s
  induction s with
  | nil => intro acc; simp [tailS, Lib.joinTail]
  | cons c s ih =>
    intro acc
    rw [tailS, ih]
    simp [Lib.joinTail, ByteArray.data_append, List.append_assoc]
theorem one_byte {t : ByteArray} (h : t.size = 1) : ∃ b, t = ⟨#[b]⟩ := by
  obtain ⟨⟨l⟩⟩ := t
  cases l with
  | nil => simp [ByteArray.size] at h
  | cons c l =>
    cases l with
    | nil => exact ⟨c, rfl⟩
    | cons _ _ => simp [ByteArray.size] at h
theorem join_data (t : ByteArray) (c : ByteArray) (s : List ByteArray) : (⟨(Lib.join ((c :: s).map (·.data.toList)) t.data.toList).toArray⟩ : ByteArray) = tailS t c s := by
  apply ByteArray.ext
  apply Array.toList_inj.1
  rw [tail_data, List.map_cons, Lib.join_cons]
theorem specJ_ev (l : List ByteArray) (t : ByteArray) (hl : l.length ≤ 1048576) (hm : ∀ s ∈ l, (s.size : Int) ≤ 1048576) : Ev (fun k => spec_JoinStrings.f k l t) (jsR l t) := by
  unfold spec_JoinStrings.f
  by_cases ht : t.size = 1
  · obtain ⟨b, rfl⟩ := one_byte ht
    refine ev_pos (by omega) (ev_succ ?_)
    simp only [spec_JoinStrings.j0.eq_2]
    cases l with
    | nil => exact ev_pos (by simp) (ev_now (by unfold jsR; rw [if_neg (by simp)]))
    | cons c s =>
      refine ev_neg (by simp; omega) (ev_succ ?_)
      have hb : bt (⟨#[b]⟩ : ByteArray) 0 = (b.toNat : Int) := bt_mid (pre := []) (suf := []) rfl
      have hs1 : (⟨#[b]⟩ : ByteArray).size = 1 := rfl
      have hc := hm c (by simp)
      have hr0 : rdOf ByteArray.empty (c :: s) 0 = c := rfl
      have hz : ((⟨#[]⟩ : ByteArray) ++ c) = c := by apply ByteArray.ext; simp [ByteArray.data_append]
      have hz0 : (⟨#[]⟩ : ByteArray).size = 0 := rfl
      simp only [spec_JoinStrings.l0.eq_2, hr0, hb, hz]
      have hd : (⟨#[b]⟩ : ByteArray).data.toList.headD 0 = b := rfl
      refine ev_pos (by simp only [List.length_cons]; omega) (ev_pos (by omega) (ev_pos (by rw [hs1]; omega) (ev_bind (stands_ev c b (by omega)) ?_)))
      have hJ : jsR (c :: s) ⟨#[b]⟩ = (if ((c :: s).all (fun c => !hasB c b)) = true ∧ sumS (c :: s) + s.length ≤ 4000 then (tailS ⟨#[b]⟩ c s, true) else (⟨#[]⟩, false)) := by
        unfold jsR
        rw [if_pos ⟨hs1, by simp⟩, hd, join_data]; rfl
      rw [hJ]
      by_cases hv : hasB c b = true
      · refine ev_pos hv (ev_now ?_)
        rw [if_neg (fun hh => by simp [hv] at hh)]
      · have hv' : hasB c b = false := by simpa using hv
        refine ev_neg hv (ev_neg (by omega) (ev_pos (by rw [hz0]; omega) ?_))
        by_cases h4 : (c.size : Int) > 4000
        · refine ev_pos h4 (ev_now ?_)
          rw [if_neg (fun hh => by have := hh.2; simp only [sumS] at this; omega)]
        · rw [wrap_of (x := (0 : Int) + 1) (by omega) (by omega)]
          refine ev_neg h4 (ev_eq (join_l (c :: s) hl hm b s [c] c rfl (by simp) (by omega)) ?_)
          by_cases hq : (s.all (fun c => !hasB c b)) = true ∧ c.size + sumS s + s.length ≤ 4000
          · rw [if_pos hq, if_pos ⟨by simp only [List.all_cons, hv', Bool.not_false, Bool.true_and]; exact hq.1, by simp only [sumS]; omega⟩]
          · rw [if_neg hq, if_neg (fun hh => hq ⟨by have := hh.1; simp only [List.all_cons, hv', Bool.not_false, Bool.true_and] at this; exact this, by have := hh.2; simp only [sumS] at this; omega⟩)]
  · refine ev_neg (by omega) (ev_succ ?_)
    simp only [spec_JoinStrings.j0.eq_2]
    exact ev_pos trivial (ev_now (by unfold jsR; rw [if_neg (fun hh => ht hh.1)]))
theorem joinI_l (l : List ByteArray) (h1 : 1 ≤ l.length) (hl : l.length ≤ 1048576) (hm : ∀ s ∈ l, (s.size : Int) ≤ 1048576) (b : UInt8) (J : ByteArray) (hJ : sumS l + (l.length - 1) ≤ 4000 → strings_Join.f l ⟨#[b]⟩ = some J) : ∀ (suf pre : List ByteArray) (n : Nat), l = pre ++ suf → n + sumS suf = sumS l + (l.length - 1) → n ≤ 1048576 + 4000 →
    Ev (fun k => impl_JoinStrings.l0 k l (⟨#[b]⟩ : ByteArray) (n : Int) l (l.length : Int) (pre.length : Int)) (if (suf.all (fun c => !hasB c b)) = true ∧ n + sumS suf ≤ 4000 then (J, true) else (⟨#[]⟩, false)) := by
  intro suf
  induction suf with
  | nil =>
    intro pre n e hn hb
    have h := lenS_end e
    refine ev_succ ?_
    simp only [impl_JoinStrings.l0.eq_2]
    refine ev_neg (by omega) ?_
    have hs0 : sumS ([] : List ByteArray) = 0 := rfl
    by_cases h4 : (n : Int) > 4000
    · exact ev_pos h4 (ev_now (by rw [if_neg (fun hh => by have := hh.2; omega)]))
    · refine ev_neg h4 ?_
      rw [hJ (by omega), if_pos ⟨rfl, by omega⟩]
      exact ev_now rfl
  | cons c suf ih =>
    intro pre n e hn hb
    have h := lenS_mid e
    have hc := hm c (by rw [e]; simp)
    refine ev_succ ?_
    simp only [impl_JoinStrings.l0.eq_2, rdS_mid e]
    rw [wrap_of (x := (n : Int) + (c.size : Int)) (by omega) (by omega), wrapS_snoc (pre := pre) (c := c) (by omega)]
    refine ev_pos (by omega) (ev_pos (by omega) (ev_pos (by omega) ?_))
    by_cases h4 : (n : Int) + (c.size : Int) > 4000
    · refine ev_pos h4 (ev_now ?_)
      rw [if_neg (fun hh => by have := hh.2; simp only [sumS] at this; omega)]
    · have hct : strings_Contains.f c ⟨#[b]⟩ = some (hasB c b) := by
        unfold strings_Contains.f
        exact if_pos rfl
      rw [hct]
      refine ev_neg h4 (ev_bind (a := hasB c b) (ev_now rfl) ?_)
      by_cases hv : hasB c b = true
      · refine ev_pos hv (ev_now ?_)
        rw [if_neg (fun hh => by simp [hv] at hh)]
      · have hv' : hasB c b = false := by simpa using hv
        have hn2 := hn
        simp only [sumS] at hn2
        have hih := ih (pre ++ [c]) (n + c.size) (by rw [e]; simp) (by omega) (by omega)
        rw [show (((n + c.size : Nat) : Int)) = (n : Int) + (c.size : Int) by omega] at hih
        refine ev_neg hv (ev_eq hih ?_)
        by_cases hq : (suf.all (fun c => !hasB c b)) = true ∧ n + c.size + sumS suf ≤ 4000
        · rw [if_pos hq, if_pos ⟨by simp only [List.all_cons, hv', Bool.not_false, Bool.true_and]; exact hq.1, by simp only [sumS]; omega⟩]
        · rw [if_neg hq, if_neg (fun hh => hq ⟨by have := hh.1; simp only [List.all_cons, hv', Bool.not_false, Bool.true_and] at this; exact this, by have := hh.2; simp only [sumS] at this; omega⟩)]
theorem tail_size (b : UInt8) : ∀ (s : List ByteArray) (acc : ByteArray), (tailS ⟨#[b]⟩ acc s).size = acc.size + sumS s + s.length := by
  intro s
  induction s with
  | nil => intro acc; simp [tailS, sumS]
  | cons c s ih =>
    intro acc
    rw [tailS, ih, app_size, app_size, show (⟨#[b]⟩ : ByteArray).size = 1 from rfl]
    simp only [sumS, List.length_cons]; omega
theorem implJ_ev (l : List ByteArray) (t : ByteArray) (hl : l.length ≤ 1048576) (hm : ∀ s ∈ l, (s.size : Int) ≤ 1048576) : Ev (fun k => impl_JoinStrings.f k l t) (jsR l t) := by
  unfold impl_JoinStrings.f
  cases l with
  | nil =>
    refine ev_pos rfl (ev_succ ?_)
    simp only [impl_JoinStrings.j0.eq_2]
    exact ev_pos trivial (ev_now (by unfold jsR; rw [if_neg (by simp)]))
  | cons c s =>
    refine ev_neg (by simp; omega) (ev_succ ?_)
    simp only [impl_JoinStrings.j0.eq_2]
    by_cases ht : t.size = 1
    · obtain ⟨b, rfl⟩ := one_byte ht
      have hs1 : (⟨#[b]⟩ : ByteArray).size = 1 := rfl
      have hd : (⟨#[b]⟩ : ByteArray).data.toList.headD 0 = b := rfl
      refine ev_neg (by rw [hs1]; simp) ?_
      simp only [List.length_cons] at hl
      rw [wrap_of (x := ((c :: s).length : Int) - 1) (by simp only [List.length_cons]; omega) (by simp only [List.length_cons]; omega)]
      rw [show ((c :: s).length : Int) - 1 = ((s.length : Nat) : Int) by simp only [List.length_cons]; omega]
      have hJ : sumS (c :: s) + ((c :: s).length - 1) ≤ 4000 → strings_Join.f (c :: s) ⟨#[b]⟩ = some ⟨(Lib.join ((c :: s).map (·.data.toList)) (⟨#[b]⟩ : ByteArray).data.toList).toArray⟩ := by
        intro h4
        have hsz : (Lib.join ((c :: s).map (·.data.toList)) (⟨#[b]⟩ : ByteArray).data.toList).length = (tailS ⟨#[b]⟩ c s).size := by
          rw [← join_data]; simp [ByteArray.size]
        have hts := tail_size b s c
        simp only [sumS, List.length_cons] at h4
        unfold strings_Join.f
        rw [if_pos ⟨by simp, by simp only [List.length_cons]; omega, by rw [hsz, hts]; omega⟩]
      refine ev_eq (joinI_l (c :: s) (by simp) (by simp only [List.length_cons]; omega) hm b _ hJ (c :: s) [] s.length rfl (by simp only [List.length_cons]; omega) (by omega)) ?_
      have hR : jsR (c :: s) ⟨#[b]⟩ = (if ((c :: s).all (fun c => !hasB c b)) = true ∧ sumS (c :: s) + ((c :: s).length - 1) ≤ 4000 then (⟨(Lib.join ((c :: s).map (·.data.toList)) (⟨#[b]⟩ : ByteArray).data.toList).toArray⟩, true) else (⟨#[]⟩, false)) := by
        unfold jsR
        rw [if_pos ⟨hs1, by simp⟩, hd]
      rw [hR]
      by_cases hq : ((c :: s).all (fun c => !hasB c b)) = true ∧ s.length + sumS (c :: s) ≤ 4000
      · rw [if_pos hq, if_pos ⟨hq.1, by simp only [List.length_cons]; omega⟩]
      · rw [if_neg hq, if_neg (fun hh => hq ⟨hh.1, by have := hh.2; simp only [List.length_cons] at this; omega⟩)]
    · refine ev_pos (by simp; omega) (ev_now ?_)
      unfold jsR
      rw [if_neg (fun hh => ht hh.1)]

theorem impl_split_l (s sep : ByteArray) (hp : sep.size = 1) (hs : s.size ≤ 4000) : ∀ (suf pre : List Int) (out : List ByteArray) (f : Nat), bytesOf s = pre ++ suf → f ≤ pre.length → out.length ≤ pre.length → Ev (fun k => impl_splitAt.l0 k s sep out (f : Int) (s.size : Int) (pre.length : Int)) (out ++ splitGo s (bt sep 0) suf f pre.length) := by
  intro suf
  induction suf with
  | nil =>
    intro pre out f e hf ho
    have h := size_end e
    refine ev_succ ?_
    simp only [impl_splitAt.l0.eq_2]
    refine ev_neg (by omega) (ev_pos (by omega) (ev_pos (by omega) (ev_pos (by omega) (ev_now ?_))))
    simp [splitGo]
  | cons b suf ih =>
    intro pre out f e hf ho
    have h := size_mid e
    refine ev_succ ?_
    simp only [impl_splitAt.l0.eq_2, bt_mid e]
    rw [wrap_snoc (pre := pre) (c := b) (by omega)]
    refine ev_pos (by omega) (ev_pos (by omega) (ev_pos (by omega) (ev_pos (by omega) ?_)))
    by_cases hb : b = bt sep 0
    · refine ev_pos hb (ev_pos (by omega) (ev_pos (by omega) (ev_pos (by omega) (ev_pos (by omega) ?_))))
      refine ev_eq (ih _ _ _ (snoc_mid e) (Nat.le_refl _) ?_) ?_
      · simp; omega
      · simp [splitGo, hb]
    · refine ev_neg hb ?_
      refine ev_eq (ih _ _ _ (snoc_mid e) ?_ ?_) ?_
      · simp; omega
      · simp; omega
      · simp [splitGo, hb]
theorem impl_split_ev (s sep : ByteArray) : Ev (fun k => impl_SplitString.f k s sep) (splitR s sep) := by
  unfold impl_SplitString.f splitR
  by_cases h2 : (s.size : Int) > 4000
  · refine ev_pos h2 (ev_now ?_)
    rw [if_neg (fun h => by omega)]
  · refine ev_neg h2 ?_
    by_cases h1 : sep.size = 1
    · refine ev_pos (by omega) ?_
      rw [if_pos ⟨h1, by omega⟩]
      refine ev_bind (a := splitGo s (bt sep 0) (bytesOf s) 0 0) ?_ (ev_now rfl)
      unfold impl_splitAt.f
      exact impl_split_l s sep h1 (by omega) (bytesOf s) [] [] 0 rfl (by simp) (by simp)
    · refine ev_neg (by omega) (ev_now ?_)
      rw [if_neg (fun h => h1 h.1)]

/-! ### the drawing functions -/
theorem u64_eq (n : Int) : IntKind.u64.wrap n = n % 18446744073709551616 := rfl
theorem and_ok (Y : Int) : 0 ≤ wrap64 (Go.bits .and .u64 (IntKind.u64.wrap Y / 1099511627776) 255) ∧ wrap64 (Go.bits .and .u64 (IntKind.u64.wrap Y / 1099511627776) 255) ≤ 255 := by
  rw [u64_eq]
  obtain ⟨m, hm⟩ : ∃ m : Nat, (Y % 18446744073709551616) / 1099511627776 = (m : Int) := ⟨((Y % 18446744073709551616) / 1099511627776).toNat, by omega⟩
  have hlt : m < 18446744073709551616 := by omega
  rw [hm, show (255 : Int) = ((255 : Nat) : Int) from rfl, Go.bits_and_u64_nat m 255 hlt (by omega)]
  have h2 : m &&& 255 ≤ 255 := Nat.and_le_right
  rw [wrap_of (by omega) (by omega)]
  omega
def byteL (l : List Int) : Prop := l.length ≤ 65536 ∧ ∀ x ∈ l, 0 ≤ x ∧ x ≤ 255
theorem rd_byte {l : List Int} (hl : byteL l) (i : Int) (h0 : 0 ≤ i) (h1 : i < (l.length : Int)) : 0 ≤ rd l i ∧ rd l i ≤ 255 := by
  have hi : i.toNat < l.length := by omega
  have e : rd l i = l[i.toNat] := by simp [rd, List.getD_eq_getElem?_getD, List.getElem?_eq_getElem hi]
  rw [e]
  exact hl.2 _ (List.getElem_mem hi)
theorem next_ok {l : List Int} (hl : byteL l) (s1 s2 : Int) (h0 : 0 ≤ s1) (h1 : s1 ≤ 1000000) : ∃ b s2', spec_l1Cur_next.f l s1 s2 = some (b, s1 + 1, s2') ∧ 0 ≤ b ∧ b ≤ 255 := by
  unfold spec_l1Cur_next.f
  rw [wrap_of (x := s1 + 1) (by omega) (by omega)]
  by_cases h : s1 < (l.length : Int)
  · have hr := rd_byte hl s1 h0 h
    rw [if_pos h, if_pos h0]
    by_cases h2 : s1 + 1 ≤ (l.length : Int)
    · rw [if_pos h2]
      exact ⟨_, _, rfl, by rw [wrap_of (by omega) (by omega)]; exact hr.1, by rw [wrap_of (by omega) (by omega)]; exact hr.2⟩
    · rw [if_neg h2]
      exact ⟨_, _, rfl, (and_ok _).1, (and_ok _).2⟩
  · rw [if_neg h]
    by_cases h2 : s1 + 1 ≤ (l.length : Int)
    · rw [if_pos h2]
      exact ⟨_, _, rfl, by omega, by omega⟩
    · rw [if_neg h2]
      exact ⟨_, _, rfl, (and_ok _).1, (and_ok _).2⟩
theorem pick_ok {l : List Int} (hl : byteL l) (s1 s2 n : Int) (h0 : 0 ≤ s1) (h1 : s1 ≤ 1000000) (hn : 2 ≤ n) (hn2 : n ≤ 200) : ∃ b s2', spec_l1Cur_pick.f l s1 s2 n = some (b, s1 + 1, s2') ∧ 0 ≤ b ∧ b < n := by
  obtain ⟨b, s2', hb, hb0, hb1⟩ := next_ok hl s1 s2 h0 h1
  unfold spec_l1Cur_pick.f
  rw [if_neg (by omega), hb]
  simp only [Option.bind_some]
  rw [if_neg (by omega), if_neg (by omega)]
  refine ⟨_, _, rfl, ?_, ?_⟩
  · rw [Int.tmod_eq_emod_of_nonneg hb0]; exact Int.emod_nonneg _ (by omega)
  · rw [Int.tmod_eq_emod_of_nonneg hb0]; exact Int.emod_lt_of_pos _ (by omega)
theorem of_ok {l : List Int} (hl : byteL l) (s1 s2 : Int) (xs : List ByteArray) (h0 : 0 ≤ s1) (h1 : s1 ≤ 1000000) (hn : 2 ≤ xs.length) (hn2 : xs.length ≤ 200) : ∃ x s2', spec_l1Cur_of.f l s1 s2 xs = some (x, s1 + 1, s2') ∧ x ∈ xs := by
  obtain ⟨b, s2', hb, hb0, hb1⟩ := pick_ok hl s1 s2 (xs.length : Int) h0 h1 (by omega) (by omega)
  unfold spec_l1Cur_of.f
  rw [hb]
  simp only [Option.bind_some]
  rw [if_pos hb0, if_pos hb1]
  refine ⟨_, _, rfl, ?_⟩
  have hi : b.toNat < xs.length := by omega
  have e : rdOf ByteArray.empty xs b = xs[b.toNat] := by simp [rdOf, List.getD_eq_getElem?_getD, List.getElem?_eq_getElem hi]
  rw [e]
  exact List.getElem_mem hi

def anyL : List ByteArray := [(⟨#[]⟩ : ByteArray), (⟨#[97]⟩ : ByteArray), (⟨#[97, 44, 98]⟩ : ByteArray), (⟨#[115, 111, 109, 101, 32, 119, 111, 114, 100, 115]⟩ : ByteArray), (⟨#[120, 35, 121]⟩ : ByteArray), (⟨#[45, 49, 50]⟩ : ByteArray), (⟨#[0, 255]⟩ : ByteArray), (⟨#[44, 44]⟩ : ByteArray), (⟨#[48]⟩ : ByteArray)]
def sepL : List ByteArray := [(⟨#[44]⟩ : ByteArray), (⟨#[44]⟩ : ByteArray), (⟨#[32]⟩ : ByteArray), (⟨#[]⟩ : ByteArray), (⟨#[44, 44]⟩ : ByteArray)]
theorem any_size {x : ByteArray} (h : x ∈ anyL) : x.size ≤ 10 := by
  simp only [anyL, List.mem_cons, List.not_mem_nil, or_false] at h
  rcases h with rfl | rfl | rfl | rfl | rfl | rfl | rfl | rfl | rfl <;> decide
theorem any1_ok {l : List Int} (hl : byteL l) (s1 s2 : Int) (h0 : 0 ≤ s1) (h1 : s1 ≤ 1000000) : ∃ x s2', spec_l1Cur_any1.f l s1 s2 = some (x, s1 + 1, s2') ∧ x ∈ anyL := by
  obtain ⟨x, s2', hx, hm⟩ := of_ok hl s1 s2 anyL h0 h1 (by decide) (by decide)
  unfold spec_l1Cur_any1.f
  refine ⟨x, s2', ?_, hm⟩
  have hx' := hx
  unfold anyL at hx'
  rw [hx']; rfl
theorem drawSplit_ok {l : List Int} (hl : byteL l) : ∃ s sep, spec_DrawSplitString.f l = some (s, sep) ∧ s ∈ anyL ∧ sep ∈ sepL := by
  obtain ⟨x, s2, hx, hm⟩ := any1_ok hl 0 0 (by omega) (by omega)
  obtain ⟨y, s3, hy, hm2⟩ := of_ok hl (0 + 1) s2 sepL (by omega) (by omega) (by decide) (by decide)
  unfold spec_DrawSplitString.f
  refine ⟨x, y, ?_, hm, hm2⟩
  unfold sepL at hy
  rw [hx]
  simp only [Option.bind_some]
  rw [hy]; rfl
theorem drawLess_ok {l : List Int} (hl : byteL l) : ∃ a b, spec_DrawLessString.f l = some (a, b) := by
  obtain ⟨x, s2, hx, hm⟩ := any1_ok hl 0 0 (by omega) (by omega)
  obtain ⟨y, s3, hy, hm2⟩ := any1_ok hl (0 + 1) s2 (by omega) (by omega)
  unfold spec_DrawLessString.f
  refine ⟨x, y, ?_⟩
  rw [hx]
  simp only [Option.bind_some]
  rw [hy]; rfl
def okL (l : List ByteArray) : Prop := l.length ≤ 1048576 ∧ ∀ s ∈ l, (s.size : Int) ≤ 1048576
theorem rep_size (n : Nat) : (strOfNums (List.replicate n 0)).size = n := by simp [strOfNums, ByteArray.size]
theorem drawJoin_l {l : List Int} (hl : byteL l) (n : Int) (hn : n ≤ 4) : ∀ (d : Nat) (i : Int) (acc : List ByteArray) (s1 s2 : Int), i + d = n ∨ (d = 0 ∧ n ≤ i) → 0 ≤ i → i ≤ 4 → 0 ≤ s1 → s1 + d ≤ 100 → acc.length + d ≤ 10 → (∀ s ∈ acc, (s.size : Int) ≤ 1048576) →
    ∃ v, Ev (fun k => spec_DrawJoinStrings.l0 k acc n i l s1 s2) v ∧ okL v.1 := by
  intro d
  induction d with
  | zero =>
    intro i acc s1 s2 hi h0 h4 hs0 hs1 ha hacc
    obtain ⟨p, s3, hp, hp0, hp1⟩ := pick_ok hl s1 s2 20 (by omega) (by omega) (by omega) (by omega)
    have hone : spec_l1Cur_one.f l s1 s2 20 = some (p == 0, s1 + 1, s3) := by unfold spec_l1Cur_one.f; rw [hp]; rfl
    by_cases hz : (p == 0) = true
    · obtain ⟨q, s4, hq, hq0, hq1⟩ := pick_ok hl (s1 + 1) s3 20 (by omega) (by omega) (by omega) (by omega)
      obtain ⟨y, s5, hy, _⟩ := of_ok hl (s1 + 1 + 1) s4 ([(⟨#[44]⟩ : ByteArray), (⟨#[59]⟩ : ByteArray), (⟨#[59]⟩ : ByteArray), (⟨#[]⟩ : ByteArray), (⟨#[97, 98]⟩ : ByteArray)] : List ByteArray) (by omega) (by omega) (by decide) (by decide)
      refine ⟨(acc ++ [strOfNums (List.replicate (3990 + q).toNat 0)], y), ev_succ ?_, ?_, ?_⟩
      · simp only [spec_DrawJoinStrings.l0.eq_2, hone]
        refine ev_neg (by omega) (ev_let (ev_pos hz ?_))
        simp only [hq]
        refine ev_let ?_
        simp only [hy]
        rw [wrap_of (x := 3990 + q) (by omega) (by omega)]
        exact ev_pos (by omega) (ev_pos (by omega) (ev_pos (by omega) (ev_let (ev_now rfl))))
      · simp; omega
      · intro s hs
        rcases List.mem_append.1 hs with hs | hs
        · exact hacc s hs
        · have := List.mem_singleton.1 hs
          rw [this, rep_size]; omega
    · obtain ⟨y, s5, hy, _⟩ := of_ok hl (s1 + 1) s3 ([(⟨#[44]⟩ : ByteArray), (⟨#[59]⟩ : ByteArray), (⟨#[59]⟩ : ByteArray), (⟨#[]⟩ : ByteArray), (⟨#[97, 98]⟩ : ByteArray)] : List ByteArray) (by omega) (by omega) (by decide) (by decide)
      refine ⟨(acc, y), ev_succ ?_, (by omega : acc.length ≤ 1048576), hacc⟩
      simp only [spec_DrawJoinStrings.l0.eq_2, hone]
      refine ev_neg (by omega) (ev_let (ev_neg hz ?_))
      simp only [hy]
      exact ev_let (ev_now rfl)
  | succ d ih =>
    intro i acc s1 s2 hi h0 h4 hs0 hs1 ha hacc
    obtain ⟨x, s3, hx, hm⟩ := any1_ok hl s1 s2 hs0 (by omega)
    have hxs := any_size hm
    obtain ⟨v, hv, hok⟩ := ih (i + 1) (acc ++ [x]) (s1 + 1) s3 (by omega) (by omega) (by omega) (by omega) (by omega) (by simp; omega) (fun s hs => by
      rcases List.mem_append.1 hs with hs | hs
      · exact hacc s hs
      · rw [List.mem_singleton.1 hs]; omega)
    refine ⟨v, ev_succ ?_, hok⟩
    simp only [spec_DrawJoinStrings.l0.eq_2, hx]
    rw [wrap_of (x := i + 1) (by omega) (by omega)]
    exact ev_pos (by omega) (ev_let (ev_pos (by omega) hv))
theorem drawJoin_ok {l : List Int} (hl : byteL l) : ∃ v, Ev (fun k => spec_DrawJoinStrings.f k l) v ∧ okL v.1 := by
  obtain ⟨p, s3, hp, hp0, hp1⟩ := pick_ok hl 0 0 4 (by omega) (by omega) (by omega) (by omega)
  obtain ⟨v, hv, hok⟩ := drawJoin_l hl p (by omega) p.toNat 0 [] (0 + 1) s3 (by omega) (by omega) (by omega) (by omega) (by omega) (by simp; omega) (by simp)
  refine ⟨v, ?_, hok⟩
  unfold spec_DrawJoinStrings.f
  rw [hp]
  exact ev_let hv
theorem less_asymm : ∀ (a b : List UInt8), Op.bytesLess a b = true → Op.bytesLess b a = false := by
  intro a
  induction a with
  | nil => intro b h; cases b <;> simp [Op.bytesLess] at h ⊢
  | cons c a ih =>
    intro b h
    cases b with
    | nil => simp [Op.bytesLess] at h
    | cons d b =>
      simp only [Op.bytesLess, Bool.or_eq_true, Bool.and_eq_true, decide_eq_true_eq, beq_iff_eq, Bool.or_eq_false_iff, decide_eq_false_iff_not] at h ⊢
      rcases h with h | ⟨h1, h2⟩
      · refine ⟨fun hh => absurd (UInt8.lt_trans h hh) (UInt8.lt_irrefl _), ?_⟩
        have : (d == c) = false := by
          rw [beq_eq_false_iff_ne]; rintro rfl; exact UInt8.lt_irrefl _ h
        simp [this]
      · subst h1
        exact ⟨UInt8.lt_irrefl _, by simp [ih b h2]⟩
theorem back_any {s : ByteArray} (hs : s ∈ anyL) {sep : ByteArray} (hp : sep = ⟨#[44]⟩ ∨ sep = ⟨#[32]⟩) : jsR (splitGo s (bt sep 0) (bytesOf s) 0 0) sep = (s, true) := by
  simp only [anyL, List.mem_cons, List.not_mem_nil, or_false] at hs
  rcases hp with rfl | rfl <;> rcases hs with rfl | rfl | rfl | rfl | rfl | rfl | rfl | rfl | rfl <;> kernel_rfl
theorem split_sizes (s : ByteArray) (c : Int) : ∀ (suf : List Int) (f i : Nat), ∀ x ∈ splitGo s c suf f i, x.size ≤ s.size := by
  intro suf
  induction suf with
  | nil => intro f i x hx; simp only [splitGo, List.mem_singleton] at hx; subst hx; rw [ByteArray.size_extract]; omega
  | cons b suf ih =>
    intro f i x hx
    simp only [splitGo] at hx
    split at hx
    · rcases List.mem_cons.1 hx with rfl | hx
      · rw [ByteArray.size_extract]; omega
      · exact ih _ _ x hx
    · exact ih _ _ x hx
theorem FnSplitJoin : laws_FnSplitJoin.Pure := by
  intro l _ _ hw
  apply Ev.rounds (r := true)
  unfold laws_FnSplitJoin.f
  have hvb : laws_vBig.f l = some (decide ((l.length : Int) > 65536)) := rfl
  rw [hvb]
  refine ev_let ?_
  by_cases hbig : (l.length : Int) > 65536
  · exact ev_pos (decide_eq_true hbig) (ev_now rfl)
  have hl : byteL l := ⟨by omega, fun x hx => by have := hw x hx; simp [Lit.wf] at this; exact ⟨this.1, this.2⟩⟩
  obtain ⟨s, sep, hds, hs, hsep⟩ := drawSplit_ok hl
  obtain ⟨⟨jl, jm⟩, hdj, hjo⟩ := drawJoin_ok hl
  obtain ⟨a, b, hdl⟩ := drawLess_ok hl
  have hj1 := specJ_ev jl jm hjo.1 hjo.2
  have hj2 := implJ_ev jl jm hjo.1 hjo.2
  refine ev_neg (by simpa using hbig) ?_
  rw [hds]
  refine ev_let (ev_bind (impl_split_ev s sep) (ev_bind hdj (ev_bind hj2 (ev_bind hj1 ?_))))
  rw [hdl]
  refine ev_let (ev_pos rfl (ev_neg (by simp) ?_))
  have hfin : Ev (fun k => laws_FnSplitJoin.j0 k s sep (splitR s sep).1 (splitR s sep).2 false) true := by
    refine ev_succ ?_
    simp only [laws_FnSplitJoin.j0.eq_2]
    refine ev_neg (by simp) ?_
    have hsz := any_size hs
    by_cases h1 : (sep.size : Int) = 1
    · have hp : sep = ⟨#[44]⟩ ∨ sep = ⟨#[32]⟩ := by
        simp only [sepL, List.mem_cons, List.not_mem_nil, or_false] at hsep
        rcases hsep with rfl | rfl | rfl | rfl | rfl
        · exact .inl rfl
        · exact .inl rfl
        · exact .inr rfl
        · exact absurd h1 (by decide)
        · exact absurd h1 (by decide)
      have hR : splitR s sep = (splitGo s (bt sep 0) (bytesOf s) 0 0, true) := by unfold splitR; rw [if_pos ⟨by omega, by omega⟩]
      rw [hR]
      have hln := splitGo_length s (bt sep 0) (bytesOf s) 0 0
      rw [bytes_len] at hln
      have hJ := implJ_ev (splitGo s (bt sep 0) (bytesOf s) 0 0) sep (by omega) (fun x hx => by have := split_sizes s (bt sep 0) (bytesOf s) 0 0 x hx; omega)
      rw [back_any hs hp] at hJ
      exact ev_pos h1 (ev_bind hJ (ev_pos rfl (ev_pos rfl (ev_now (by simp)))))
    · have hR : splitR s sep = ([], false) := by unfold splitR; rw [if_neg (fun hh => h1 (by omega))]
      rw [hR]
      exact ev_neg h1 (ev_neg (by simp) (ev_now rfl))
  have hI : ∀ x y : ByteArray, impl_LessString.f x y = some (Op.bytesLess x.toList y.toList) := fun _ _ => rfl
  have hS : ∀ x y : ByteArray, spec_LessString.f x y = some (Op.bytesLess x.toList y.toList) := fun _ _ => rfl
  simp only [hI, hS]
  refine ev_let (ev_let (ev_neg (by simp) (ev_let ?_)))
  by_cases hab : Op.bytesLess a.toList b.toList = true
  · refine ev_pos hab (ev_let ?_)
    rw [less_asymm _ _ hab]
    exact hfin
  · exact ev_neg hab hfin
end Go.Proofs.Ytjaplmgbhmgpiaa.Pure
