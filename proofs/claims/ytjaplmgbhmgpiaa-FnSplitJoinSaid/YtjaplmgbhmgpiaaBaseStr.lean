/- A slice of strings that came in, as a list. No condition. -/
import Derived.Test.YtjaplmgbhmgpiaaBase
import Derived.Deep.Strs
import Derived.SizedLaws
import Derived.ChangeSlices
namespace Go.Proofs.Ytjaplmgbhmgpiaa.Base
open Go.RowKit Go.Proofs.YtjaplmgbhmgpiaaW.PrintWords Go.ChangeShapes Go.WideShapes
set_option linter.unusedVariables false
set_option linter.unusedSimpArgs false
theorem open_strsL {H : Type} {enc : TypeId × Value → H} {P : Program} {W : World} {base : Nat} {held : Bool} {t e : TypeId} {a : Option Addr} {len cap : Nat} {d : DataW H} {ps : List MemPlace} (ht : P.underlying t = some (.slice e)) (he : P.underlying e = some .string)
    (ce : P.cellsOf e = 1) (h : DataW.Trod enc P W base (fun _ => true) held t (.slice a len cap) d ps) :
    ∃ l : List ByteArray, len = l.length ∧ l.length ≤ cap ∧ l.length ≤ maxLen ∧ Kd.C Kd.string W a l.length l ∧ ∀ s ∈ l, s.size ≤ maxLen := by
  obtain ⟨fuel, hf⟩ := h
  rcases Go.Deep.open_strs ht he ce hf with ⟨hcs, _⟩ | ⟨a1, len1, cap1, m, Sx, hcs, _, hl, hm, hmm, _, hr⟩
  · simp [Value.cells] at hcs
    obtain ⟨rfl, rfl, rfl⟩ := hcs
    exact ⟨[], rfl, Nat.le_refl _, Nat.zero_le _, ⟨rfl, Nat.zero_le _, fun h => absurd h (by simp)⟩, by simp⟩
  · simp [Value.cells] at hcs
    obtain ⟨rfl, rfl, rfl⟩ := hcs
    rw [if_pos rfl] at hmm
    subst hmm
    refine ⟨(List.range len).map Sx, by simp, by simpa using hl, by simp; omega, ?_, ?_⟩
    · refine ⟨rfl, by simp; unfold maxLen at hm; omega, fun _ => ⟨a1, rfl, fun j p hj => ?_⟩⟩
      obtain ⟨hj1, hj2⟩ := List.getElem?_eq_some_iff.1 hj
      have hjl : j < len := by simpa using hj1
      have hp : Sx j = p := by simpa using hj2
      subst hp
      refine ⟨[.string (Sx j)], rfl, rfl, fun i u hu => ?_⟩
      cases i with
      | zero =>
        have e : Value.string (Sx j) = u := by simpa using hu
        subst e
        have := (hr j (by omega)).1
        simpa [Kd.string, Kd.scalar] using this
      | succ i => simp at hu
    · intro s hs
      obtain ⟨r, hr1, rfl⟩ := List.mem_map.1 hs
      have hr1 := List.mem_range.1 hr1
      exact (hr r (by omega)).2
end Go.Proofs.Ytjaplmgbhmgpiaa.Base
