/- A slice of slices of whole numbers that came in, as a list of lists. No condition. -/
import Derived.Test.YtjaplmgbhmgpiaaBase
import Derived.Deep.Matrix
import Derived.SizedLaws
import Derived.ChangeSlices
namespace Go.Proofs.Ytjaplmgbhmgpiaa.Base
open Go.RowKit Go.Proofs.YtjaplmgbhmgpiaaW.PrintWords Go.ChangeShapes Go.WideShapes
set_option linter.unusedVariables false
set_option linter.unusedSimpArgs false
theorem C_row_of {k : IntKind} {w : World} {A : Option Addr} {L C : Nat} {Z : List Int} (h1 : L ≤ C) (h2 : C ≤ maxLen) (h3 : Z.length = C) (h4 : ∀ n ∈ Z, (Lit.int k n).wf = true) (h5 : A = none → C = 0) (h6 : ∀ a', A = some a' → ∀ c, c < C → w.cell? (a'.add c) = some (.int k (Z.getD c 0))) :
    (Kd.int k).C w A L (Z.take L) ∧ (Z.take L).length = L ∧ ∀ n ∈ Z.take L, (Lit.int k n).wf = true := by
  have hl : (Z.take L).length = L := by simp; omega
  refine ⟨?_, hl, fun n hn => h4 n (List.mem_of_mem_take hn)⟩
  refine ⟨hl, by unfold maxLen at h2; omega, fun hn => ?_⟩
  cases A with
  | none => have := h5 rfl; omega
  | some a' =>
    refine ⟨a', rfl, fun j p hj => ⟨[.int k p], rfl, rfl, fun i u hu => ?_⟩⟩
    obtain ⟨hj1, hj2⟩ := List.getElem?_eq_some_iff.1 hj
    have hjL : j < L := by omega
    cases i with
    | zero =>
      have e : Value.int k p = u := by simpa using hu
      subst e
      have := h6 a' rfl j (by omega)
      rw [List.getD_eq_getElem?_getD, List.getElem?_eq_getElem (by omega), Option.getD_some] at this
      rw [List.getElem_take] at hj2
      rw [hj2] at this
      simpa [Kd.int, Kd.scalar] using this
    | succ i => simp at hu
theorem open_rows {H : Type} {enc : TypeId × Value → H} {P : Program} {W : World} {base : Nat} {held : Bool} {t e q : TypeId} {k : IntKind} {a : Option Addr} {len cap : Nat} {d : DataW H} {ps : List MemPlace} (ht : P.underlying t = some (.slice e)) (he : P.underlying e = some (.slice q)) (hq : P.underlying q = some (.int k))
    (ce : P.cellsOf e = 1) (cq : P.cellsOf q = 1) (z : Nat) (h : DataW.Trod enc P W base (fun _ => true) held t (.slice a len cap) d ps) :
    ∃ rows : List (List Int), len = rows.length ∧ rows.length ≤ cap ∧ rows.length ≤ maxLen ∧ Kd.C (Kd.slice z (Kd.int k)) W a rows.length rows ∧ ∀ xs ∈ rows, xs.length ≤ maxLen ∧ ∀ x ∈ xs, (Lit.int k x).wf = true := by
  obtain ⟨fuel, hf⟩ := h
  rcases Go.Deep.open_int_rows ht he hq ce cq hf with ⟨hcs, _⟩ | ⟨a1, len1, cap1, A, L, C, Z, hcs, _, hl, hm, _, hr⟩
  · simp [Value.cells] at hcs
    obtain ⟨rfl, rfl, rfl⟩ := hcs
    exact ⟨[], rfl, Nat.le_refl _, Nat.zero_le _, ⟨rfl, Nat.zero_le _, fun h => absurd h (by simp)⟩, by simp⟩
  · simp [Value.cells] at hcs
    obtain ⟨rfl, rfl, rfl⟩ := hcs
    have each : ∀ r, r < len → (Kd.int k).C W (A r) (L r) ((Z r).take (L r)) ∧ ((Z r).take (L r)).length = L r ∧ ∀ n ∈ (Z r).take (L r), (Lit.int k n).wf = true := fun r hr' => by
      obtain ⟨_, r1, r2, r3, r4, r5, r6⟩ := hr r (by omega)
      exact C_row_of r1 r2 r3 r4 r5 (fun a' ha c hc => (r6 a' ha).2 c hc)
    refine ⟨(List.range len).map (fun r => (Z r).take (L r)), by simp, by simpa using hl, by simp; omega, ?_, ?_⟩
    · refine ⟨rfl, by simp; unfold maxLen at hm; omega, fun _ => ⟨a1, rfl, fun j p hj => ?_⟩⟩
      obtain ⟨hj1, hj2⟩ := List.getElem?_eq_some_iff.1 hj
      have hjl : j < len := by simpa using hj1
      have hp : (Z j).take (L j) = p := by simpa using hj2
      obtain ⟨e1, e2, e3⟩ := each j hjl
      obtain ⟨r0, r1, r2, _⟩ := hr j (by omega)
      subst hp
      refine ⟨[.slice (A j) ((Z j).take (L j)).length (C j)], rfl, ⟨A j, C j, rfl, by omega, by rw [e2]; exact e1⟩, fun i u hu => ?_⟩
      cases i with
      | zero =>
        have e : Value.slice (A j) ((Z j).take (L j)).length (C j) = u := by simpa using hu
        subst e
        rw [e2]
        simpa [Kd.slice] using r0
      | succ i => simp at hu
    · intro xs hx
      obtain ⟨r, hr1, rfl⟩ := List.mem_map.1 hx
      have hr1 := List.mem_range.1 hr1
      obtain ⟨e1, e2, e3⟩ := each r hr1
      obtain ⟨_, q1, q2, _⟩ := hr r (by omega)
      exact ⟨by omega, e3⟩
end Go.Proofs.Ytjaplmgbhmgpiaa.Base
