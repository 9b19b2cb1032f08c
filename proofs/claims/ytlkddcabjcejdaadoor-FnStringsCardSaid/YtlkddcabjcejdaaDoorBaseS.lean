/- Lemmas on lists of texts, and what the functions on texts tell. No condition. -/
import Derived.Test.YtlkddcabjcejdaaDoorBase
namespace Go.Proofs.YtlkddcabjcejdaaDoor.Base
open Go.RowKit Go.Proofs.YtlkddcabjcejdaaDoorW.PrintWords
set_option linter.unusedVariables false
set_option linter.unusedSimpArgs false
theorem rdOf_mid {α : Type} {d : α} {xs pre suf : List α} {c : α} (h : xs = pre ++ c :: suf) : rdOf d xs (pre.length : Int) = c := by
  rw [h]; simp [rdOf]
/-- The parts of a text between bytes, from a place on. -/
def splitGo (s : ByteArray) (c : Int) : List Int → Nat → Nat → List ByteArray
  | [], f, _ => [s.extract f s.size]
  | b :: suf, f, i => if b = c then s.extract f i :: splitGo s c suf (i + 1) (i + 1) else splitGo s c suf f (i + 1)
theorem splitGo_length (s : ByteArray) (c : Int) : ∀ (suf : List Int) (f i : Nat), (splitGo s c suf f i).length ≤ suf.length + 1 := by
  intro suf
  induction suf with
  | nil => intro f i; simp [splitGo]
  | cons b suf ih =>
    intro f i
    simp only [splitGo]
    split
    · have := ih (i + 1) (i + 1); simp only [List.length_cons]; omega
    · have := ih f (i + 1); simp only [List.length_cons]; omega
def splitR (s sep : ByteArray) : List ByteArray × Bool := if sep.size = 1 ∧ s.size ≤ 4000 then (splitGo s (bt sep 0) (bytesOf s) 0 0, true) else ([], false)
end Go.Proofs.YtlkddcabjcejdaaDoor.Base
