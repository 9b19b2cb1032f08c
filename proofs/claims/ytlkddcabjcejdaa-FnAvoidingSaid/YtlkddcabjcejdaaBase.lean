/- Lemmas on rounds ('Ev'), on lists of whole numbers and on bytes, for the pure statements of this seat. No condition. -/
import Derived.Test.YtlkddcabjcejdaaWWords
import Derived.Test.YtlkddcabjcejdaaWLast
import Derived.Test.YtlkddcabjcejdaaWMore
import Derived.RowKit
namespace Go.Proofs.Ytlkddcabjcejdaa.Base
open Go.RowKit Go.Proofs.YtlkddcabjcejdaaW.PrintWords
set_option linter.unusedVariables false
set_option linter.unusedSimpArgs false

/-! ### Rounds -/
theorem ev_succ {α : Type} {g : Nat → Option α} {r : α} (h : Ev (fun k => g (k + 1)) r) : Ev g r := Ev.step (fun _ => rfl) h
theorem ev_pos {α : Type} {c : Prop} [Decidable c] {f g : Nat → Option α} {r : α} (hc : c) (h : Ev f r) : Ev (fun k => if c then f k else g k) r := by
  simp only [if_pos hc]; exact h
theorem ev_neg {α : Type} {c : Prop} [Decidable c] {f g : Nat → Option α} {r : α} (hc : ¬ c) (h : Ev g r) : Ev (fun k => if c then f k else g k) r := by
  simp only [if_neg hc]; exact h
theorem ev_bind {α β : Type} {g : Nat → Option α} {f : Nat → α → Option β} {a : α} {r : β} (h : Ev g a) (k : Ev (fun n => f n a) r) : Ev (fun n => (g n).bind (f n)) r := Ev.bind h k
theorem ev_now {α : Type} {a r : α} (h : a = r) : Ev (fun _ => some a) r := h ▸ Ev.now a
theorem ev_let {α β : Type} {a : α} {f : Nat → α → Option β} {r : β} (h : Ev (fun n => f n a) r) : Ev (fun n => (some a).bind (f n)) r := h
theorem ev_const {α : Type} {o : Option α} {r : α} (h : o = some r) : Ev (fun _ => o) r := ⟨0, fun _ _ => h⟩
theorem ev_eq {α : Type} {g : Nat → Option α} {r r' : α} (h : Ev g r) (e : r = r') : Ev g r' := e ▸ h

/-! ### Wrapped numbers -/
theorem wrap_of {x : Int} (h0 : -9223372036854775808 ≤ x) (h1 : x ≤ 9223372036854775807) : wrap64 x = x := by unfold wrap64; omega
theorem wrap_snoc {α : Type} {pre : List α} {c : α} (h : pre.length < 9223372036854775807) : wrap64 ((pre.length : Int) + 1) = ((pre ++ [c]).length : Int) := by
  rw [wrap_of (by omega) (by omega)]; simp

/-! ### Lists -/
theorem rd_mid {pre suf : List Int} {c : Int} : rd (pre ++ c :: suf) (pre.length : Int) = c := by simp [rd]
theorem rd_mid' {xs pre suf : List Int} {c : Int} (h : xs = pre ++ c :: suf) : rd xs (pre.length : Int) = c := by rw [h]; exact rd_mid
theorem len_mid {α : Type} {xs pre suf : List α} {c : α} (h : xs = pre ++ c :: suf) : (xs.length : Int) = pre.length + 1 + suf.length := by
  rw [h]; simp; omega
theorem len_end {α : Type} {xs pre : List α} (h : xs = pre ++ []) : (xs.length : Int) = pre.length := by
  rw [h]; simp
theorem snoc_mid {α : Type} {xs pre suf : List α} {c : α} (h : xs = pre ++ c :: suf) : xs = (pre ++ [c]) ++ suf := by rw [h]; simp
theorem take_mid {α : Type} {xs pre suf : List α} (h : xs = pre ++ suf) : xs.take ((pre.length : Int)).toNat = pre := by rw [h]; simp

def iota : Int → Nat → List Int
  | _, 0 => []
  | a, n + 1 => a :: iota (a + 1) n
theorem iota_length : ∀ (n : Nat) (a : Int), (iota a n).length = n := by
  intro n
  induction n with
  | zero => intro a; rfl
  | succ n ih => intro a; simp [iota, ih]
theorem len_max {l : List Int} (h : l.length * 8 ≤ 140737488351232) : l.length ≤ 140737488351232 := by omega

/-! ### Bytes -/
theorem bytes_len (s : ByteArray) : (bytesOf s).length = s.size := bytesOf_length s
theorem bt_mid {s : ByteArray} {pre suf : List Int} {c : Int} (h : bytesOf s = pre ++ c :: suf) : bt s (pre.length : Int) = c := by
  rw [← rd_bytesOf, h]; exact rd_mid
theorem size_mid {s : ByteArray} {pre suf : List Int} {c : Int} (h : bytesOf s = pre ++ c :: suf) : (s.size : Int) = pre.length + 1 + suf.length := by
  rw [← bytes_len s]; exact len_mid h
theorem size_end {s : ByteArray} {pre : List Int} (h : bytesOf s = pre ++ []) : (s.size : Int) = pre.length := by
  rw [← bytes_len s]; exact len_end h
theorem bytes_range {s : ByteArray} {c : Int} (h : c ∈ bytesOf s) : 0 ≤ c ∧ c ≤ 255 := by
  unfold bytesOf at h
  obtain ⟨b, _, rfl⟩ := List.mem_map.1 h
  have := b.toNat_lt
  omega
/-! ### Orders -/
def ordGo (n : Int) : List Int → List Int → Bool
  | _, [] => true
  | pre, c :: suf => if 1 ≤ c ∧ c ≤ n ∧ c ∉ pre then ordGo n (pre ++ [c]) suf else false
def isOrd (l : List Int) : Bool := if 1 ≤ l.length ∧ l.length ≤ 7 then ordGo (l.length : Int) [] l else false
theorem ordGo_iff (n : Int) : ∀ (suf pre : List Int), pre.Nodup → (ordGo n pre suf = true ↔ (∀ x ∈ suf, 1 ≤ x ∧ x ≤ n) ∧ (pre ++ suf).Nodup) := by
  intro suf
  induction suf with
  | nil => intro pre hp; simp [ordGo, hp]
  | cons c suf ih =>
    intro pre hp
    simp only [ordGo]
    by_cases h : 1 ≤ c ∧ c ≤ n ∧ c ∉ pre
    · rw [if_pos h, ih (pre ++ [c]) (by rw [List.nodup_append]; exact ⟨hp, by simp, fun a ha b hb => by simp at hb; subst hb; exact fun e => h.2.2 (e ▸ ha)⟩)]
      simp [h.1, h.2.1]
    · rw [if_neg h]
      simp only [Bool.false_eq_true, false_iff, not_and]
      intro h1 h2
      have h3 := h1 c (by simp)
      refine h ⟨h3.1, h3.2, fun hc => ?_⟩
      rw [List.nodup_append] at h2
      exact h2.2.2 c hc c (by simp) rfl
theorem isOrd_iff (l : List Int) : isOrd l = true ↔ (1 ≤ l.length ∧ l.length ≤ 7) ∧ (∀ x ∈ l, 1 ≤ x ∧ x ≤ (l.length : Int)) ∧ l.Nodup := by
  unfold isOrd
  by_cases h : 1 ≤ l.length ∧ l.length ≤ 7
  · rw [if_pos h, ordGo_iff _ _ _ (by simp)]; simp [h.1, h.2]
  · rw [if_neg h]; simp [h]
/-! ### Words -/
def wGo : List Int → Int → Bool
  | [], d => d == 0
  | c :: s, d => if c = 73 then wGo s (d + 1) else if c = 79 then (if d > 0 then wGo s (d - 1) else false) else false
def wDeep : List Int → Int → Int → Int
  | [], _, m => m
  | c :: s, d, m => if c = 73 then wDeep s (d + 1) (mx m (d + 1)) else wDeep s (d - 1) (mx m (d - 1))
def isWd (w : List Int) : Bool := decide (2 ≤ w.length) && decide (w.length ≤ 14) && wGo w 0
theorem wGo_in (s : List Int) (d : Int) : wGo (73 :: s) d = wGo s (d + 1) := by simp [wGo]
theorem wGo_out (s : List Int) (d : Int) : wGo (79 :: s) d = (if d > 0 then wGo s (d - 1) else false) := by simp [wGo]
theorem wDeep_in (s : List Int) (d m : Int) : wDeep (73 :: s) d m = wDeep s (d + 1) (mx m (d + 1)) := by simp [wDeep]
theorem wDeep_out (s : List Int) (d m : Int) : wDeep (79 :: s) d m = wDeep s (d - 1) (mx m (d - 1)) := by simp [wDeep]
theorem wGo_even : ∀ (s : List Int) (d : Int), wGo s d = true → ((s.length : Int) + d) % 2 = 0 := by
  intro s
  induction s with
  | nil => intro d h; simp [wGo] at h; simp [h]
  | cons c s ih =>
    intro d h
    simp only [wGo] at h
    split at h
    · have := ih _ h; simp only [List.length_cons]; omega
    · split at h
      · split at h
        · have := ih _ h; simp only [List.length_cons]; omega
        · cases h
      · cases h
theorem isWd_iff (w : List Int) : isWd w = true ↔ (2 ≤ w.length ∧ w.length ≤ 14) ∧ wGo w 0 = true := by
  unfold isWd; simp
theorem ord_len {l : List Int} (h : isOrd l = true) : 1 ≤ l.length ∧ l.length ≤ 7 := ((isOrd_iff l).1 h).1
theorem ord_range {l : List Int} (h : isOrd l = true) : ∀ x ∈ l, 1 ≤ x ∧ x ≤ (l.length : Int) := ((isOrd_iff l).1 h).2.1
theorem ord_nodup {l : List Int} (h : isOrd l = true) : l.Nodup := ((isOrd_iff l).1 h).2.2

/-! ### What the functions tell -/
/-- 'fails' where the list is no order. -/
def onOrd {α : Type} (l : List Int) (z r : α) : α × Bool := if isOrd l = true then (r, true) else (z, false)
theorem onOrd_pos {α : Type} {l : List Int} {z r : α} (h : isOrd l = true) : onOrd l z r = (r, true) := by unfold onOrd; rw [if_pos h]
theorem onOrd_neg {α : Type} {l : List Int} {z r : α} (h : ¬ isOrd l = true) : onOrd l z r = (z, false) := by unfold onOrd; rw [if_neg h]
def other (n : Int) (c : Int) : Int := wrap64 (wrap64 (n + 1) - c)
def otherR (l : List Int) : List Int × Bool := onOrd l [] (l.map (other l.length))
def invGo : List Int → Int → List Int → List Int
  | [], _, acc => acc
  | c :: s, i, acc => invGo s (i + 1) (acc.set (c - 1).toNat (i + 1))
def inv (l : List Int) : List Int := invGo l 0 (List.replicate l.length 0)
def inverseR (l : List Int) : List Int × Bool := onOrd l [] (inv l)
theorem invGo_length : ∀ (s : List Int) (i : Int) (acc : List Int), (invGo s i acc).length = acc.length := by
  intro s
  induction s with
  | nil => intro i acc; rfl
  | cons c s ih => intro i acc; simp [invGo, ih]
theorem inv_length (l : List Int) : (inv l).length = l.length := by simp [inv, invGo_length]
def comp (a b : List Int) : List Int := b.map (fun n => rd a (n - 1))
def composeR (a b : List Int) : List Int × Bool := if isOrd a = true ∧ isOrd b = true ∧ a.length = b.length then (comp a b, true) else ([], false)
def recGo : List Int → Int → Int → List Int
  | [], _, _ => []
  | c :: s, i, m => if c > m then i :: recGo s (i + 1) c else recGo s (i + 1) m
theorem recGo_length : ∀ (s : List Int) (i m : Int), (recGo s i m).length ≤ s.length := by
  intro s
  induction s with
  | nil => intro i m; simp [recGo]
  | cons c s ih =>
    intro i m
    simp only [recGo]
    split
    · have := ih (i + 1) c; simp only [List.length_cons]; omega
    · have := ih (i + 1) m; simp only [List.length_cons]; omega
def recordR (l : List Int) : List Int × Bool := onOrd l [] (recGo l 0 0)
def digs (s : ByteArray) : List Int := (bytesOf s).map (fun c => c - 48)
def parseR (s : ByteArray) : List Int × Bool := onOrd (digs s) [] (digs s)
def flipC (c : Int) : Int := if c = 73 then 79 else 73
def mirrorL (w : List Int) : List Int := (w.map flipC).reverse
def onWd {α : Type} (w : ByteArray) (z r : α) : α × Bool := if isWd (bytesOf w) = true then (r, true) else (z, false)
theorem onWd_pos {α : Type} {w : ByteArray} {z r : α} (h : isWd (bytesOf w) = true) : onWd w z r = (r, true) := by unfold onWd; rw [if_pos h]
theorem onWd_neg {α : Type} {w : ByteArray} {z r : α} (h : ¬ isWd (bytesOf w) = true) : onWd w z r = (z, false) := by unfold onWd; rw [if_neg h]
def mirrorR (w : ByteArray) : ByteArray × Bool := onWd w (⟨#[]⟩ : ByteArray) (strOfNums (mirrorL (bytesOf w)))
theorem str_snocO (xs : List Int) : strOfNums xs ++ (⟨#[79]⟩ : ByteArray) = strOfNums (xs ++ [79]) := by
  apply ByteArray.ext; simp [strOfNums, ByteArray.data_append]
theorem str_snocI (xs : List Int) : strOfNums xs ++ (⟨#[73]⟩ : ByteArray) = strOfNums (xs ++ [73]) := by
  apply ByteArray.ext; simp [strOfNums, ByteArray.data_append]
theorem str_nil : strOfNums [] = (⟨#[]⟩ : ByteArray) := by simp [strOfNums]
theorem str_size (xs : List Int) : (strOfNums xs).size = xs.length := strOfNums_size xs
theorem bytes_str {xs : List Int} (h : ∀ x ∈ xs, 0 ≤ x ∧ x ≤ 255) : bytesOf (strOfNums xs) = xs := by
  unfold bytesOf
  rw [strOfNums_data, List.map_map]
  conv => rhs; rw [← List.map_id xs]
  apply List.map_congr_left
  intro x hx
  have := h x hx
  simp; omega
end Go.Proofs.Ytlkddcabjcejdaa.Base
