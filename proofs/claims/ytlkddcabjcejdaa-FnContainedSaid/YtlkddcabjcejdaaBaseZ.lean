/- Rows of slices of one's own, sorted by slices.SortFunc: what the shelf's contract says of one-cell elements, told of rows of lists. No condition. -/
import Derived.Test.YtlkddcabjcejdaaBase
import Derived.Test.YtlkddcabjcejdaaBaseD
import Derived.Shelf.SlSortCmp.Whole1
namespace Go.Proofs.Ytlkddcabjcejdaa.Base
open Go.RowKit Go.Proofs.YtlkddcabjcejdaaW.PrintWords Go.Proofs.YtlkddcabjcejdaaW.PrintLast Go.Proofs.YtlkddcabjcejdaaW.PrintMore
set_option linter.unusedVariables false
set_option linter.unusedSimpArgs false
/-- slices.Compare at whole numbers. -/
def lexC : List Int → List Int → Int
  | [], [] => 0
  | [], _ :: _ => -1
  | _ :: _, [] => 1
  | a :: s, b :: t => if a < b then -1 else if b < a then 1 else lexC s t
def ltL (a b : List Int) : Bool := decide (lexC a b < 0)
theorem lexC_self : ∀ a : List Int, lexC a a = 0 := by
  intro a
  induction a with
  | nil => rfl
  | cons x s ih => simp [lexC, ih]
theorem lexC_eq : ∀ (a b : List Int), lexC a b = 0 → a = b := by
  intro a
  induction a with
  | nil => intro b h; cases b with
    | nil => rfl
    | cons y t => simp [lexC] at h
  | cons x s ih => intro b h; cases b with
    | nil => simp [lexC] at h
    | cons y t =>
      simp only [lexC] at h
      by_cases h1 : x < y
      · rw [if_pos h1] at h; omega
      · by_cases h2 : y < x
        · rw [if_neg h1, if_pos h2] at h; omega
        · rw [if_neg h1, if_neg h2] at h
          rw [ih t h, show x = y by omega]
theorem lexC_anti : ∀ (a b : List Int), lexC b a = - lexC a b := by
  intro a
  induction a with
  | nil => intro b; cases b <;> simp [lexC]
  | cons x s ih => intro b; cases b with
    | nil => simp [lexC]
    | cons y t =>
      simp only [lexC]
      by_cases h1 : x < y
      · rw [if_neg (by omega), if_pos h1, if_pos h1]; rfl
      · by_cases h2 : y < x
        · rw [if_pos h2, if_neg h1, if_pos h2]
        · rw [if_neg h2, if_neg h1, if_neg h1, if_neg h2, ih]
theorem lexC_trans : ∀ (a b c : List Int), lexC a b ≤ 0 → lexC b c ≤ 0 → lexC a c ≤ 0 := by
  intro a
  induction a with
  | nil => intro b c _ _; cases c <;> simp [lexC]
  | cons x s ih => intro b c h1 h2; cases b with
    | nil => simp [lexC] at h1
    | cons y t => cases c with
      | nil => simp [lexC] at h2
      | cons z u =>
        simp only [lexC] at h1 h2 ⊢
        by_cases a1 : x < y
        · by_cases a2 : y < z
          · rw [if_pos (by omega)]; omega
          · by_cases a3 : z < y
            · rw [if_neg a2, if_pos a3] at h2; omega
            · rw [if_pos (by omega)]; omega
        · by_cases b1 : y < x
          · rw [if_neg a1, if_pos b1] at h1; omega
          · rw [if_neg a1, if_neg b1] at h1
            by_cases a2 : y < z
            · rw [if_pos (by omega)]; omega
            · by_cases a3 : z < y
              · rw [if_neg a2, if_pos a3] at h2; omega
              · rw [if_neg a2, if_neg a3] at h2
                rw [if_neg (by omega), if_neg (by omega)]
                exact ih t u h1 h2
theorem ltL_false {a b : List Int} : ltL a b = false ↔ lexC b a ≤ 0 := by
  unfold ltL; rw [decide_eq_false_iff_not, lexC_anti b a]; omega
theorem ltL_total {a b : List Int} (h1 : ltL a b = false) (h2 : ltL b a = false) : a = b := by
  rw [ltL_false] at h1 h2
  exact lexC_eq a b (by have := lexC_anti a b; omega)
theorem ltL_ntrans {a b c : List Int} (h1 : ltL a b = false) (h2 : ltL b c = false) : ltL a c = false := by
  rw [ltL_false] at *
  exact lexC_trans c b a h2 h1
theorem ltL_trans {a b c : List Int} (h1 : ltL a b = true) (h2 : ltL b c = true) : ltL a c = true := by
  cases h : ltL a c with
  | true => rfl
  | false =>
    exfalso
    have e1 := of_decide_eq_true h1
    have e2 := of_decide_eq_true h2
    have e3 := ltL_false.1 h
    have k1 := lexC_trans c a b e3 (by omega)
    have := lexC_anti b c
    omega
theorem ltL_irrefl (a : List Int) : ltL a a = false := by unfold ltL; rw [lexC_self]; rfl
/-- The rows in ascending sequence. -/
def sortG (rows : List (List Int)) : List (List Int) := rows.mergeSort (fun x y => !(ltL y x))
theorem sortG_eq {rows rows' : List (List Int)} (hp : rows'.Perm rows) (hs : rows'.Pairwise (fun x y => ltL y x = false)) : rows' = sortG rows := by
  refine List.Perm.eq_of_pairwise (le := fun x y => (!ltL y x) = true) ?_ ?_ ?_ (hp.trans (List.mergeSort_perm _ _).symm)
  · intro a b _ _ h1 h2
    simp only [Bool.not_eq_true'] at h1 h2
    exact ltL_total h2 h1
  · exact hs.imp (fun h => by simp [h])
  · refine List.pairwise_mergeSort ?_ ?_ _
    · intro a b c h1 h2
      simp only [Bool.not_eq_true'] at h1 h2 ⊢
      exact ltL_ntrans h2 h1
    · intro a b
      cases h : ltL b a with
      | false => simp
      | true =>
        cases h2 : ltL a b with
        | false => simp
        | true => exact absurd (ltL_trans h h2) (by simp [ltL_irrefl])
theorem sortG_perm (rows : List (List Int)) : (sortG rows).Perm rows := List.mergeSort_perm _ _
theorem sortG_sorted (rows : List (List Int)) : (sortG rows).Pairwise (fun x y => ltL y x = false) := by
  have h := List.pairwise_mergeSort (le := fun x y : List Int => !(ltL y x)) ?_ ?_ rows
  · exact h.imp (fun h => by simpa using h)
  · intro a b c h1 h2
    simp only [Bool.not_eq_true'] at h1 h2 ⊢
    exact ltL_ntrans h2 h1
  · intro a b
    cases h : ltL b a with
    | false => simp
    | true =>
      cases h2 : ltL a b with
      | false => simp
      | true => exact absurd (ltL_trans h h2) (by simp [ltL_irrefl])
/-- What a cell of a row of slices may be: a slice of L numbers that can be read while all blocks but g stay. -/
abbrev RV (W : World) (g L : Nat) : Type := { p : Value × List Int // p.2.length = L ∧ ∃ A c, p.1 = .slice A p.2.length c ∧ p.2.length ≤ c ∧ ∀ W', Fr (fun k => k = g) W W' → Kd.C (Kd.int .i64) W' A p.2.length p.2 }
def RV.enc {W : World} {g L : Nat} (x : RV W g L) : Value := x.1.1
theorem Fr.sort {α : Type} [Inhabited α] (enc : α → Value) (w : World) (g off m : Nat) (dk : Array α) (os : Array Obj) : Fr (fun k => k = g) w (sortWorld enc w g off m dk os) := by
  refine ⟨rfl, rfl, rfl, ?_, ?_⟩
  · simp [sortWorld]
  · intro k hk hn
    unfold sortWorld
    rw [Go.Sort.heap_grow_old _ _ (by simpa using hk)]
    show ((w.heap.modify g (Go.Sort.onCells _)))[k]? = _
    rw [Array.getElem?_modify, if_neg (fun h => hn h.symm)]
theorem sort_block {α : Type} [Inhabited α] (enc : α → Value) (w : World) (g off m : Nat) (dk : Array α) (os : Array Obj) {cs : Array Value} {q : TypeId} (hb : w.heap[g]? = some (.cells cs q (0, 0))) : (sortWorld enc w g off m dk os).heap[g]? = some (.cells (Go.Sort.putCells enc off dk cs) q (0, 0)) := by
  unfold sortWorld
  rw [Go.Sort.heap_grow_old _ _ (by simpa using blk_lt hb)]
  show ((w.heap.modify g (Go.Sort.onCells _)))[g]? = _
  rw [Array.getElem?_modify, if_pos rfl, hb]
  rfl
theorem rv_of {e : Nat} {W : World} {base g L : Nat} {ps : List (Value × List Int)} (hv : Vals e W base g ps) (hL : ∀ p ∈ ps, p.2.length = L) : ∀ p ∈ ps, p.2.length = L ∧ ∃ A c, p.1 = .slice A p.2.length c ∧ p.2.length ≤ c ∧ ∀ W', Fr (fun k => k = g) W W' → Kd.C (Kd.int .i64) W' A p.2.length p.2 := by
  intro p hp
  obtain ⟨v, xs⟩ := p
  have hR := hv.row _ hp
  obtain ⟨A, c, e1⟩ := Kd.R_slice hR
  simp only at e1 hR
  subst e1
  exact ⟨hL _ hp, A, c, rfl, (Kd.R_reads' hR).2.1, fun W' hf => (Kd.R_reads' (R_fr hR hf)).2.2⟩
set_option maxHeartbeats 1000000 in
theorem sort_rows {P : Program} {ρ : Go.Shelf.Ren} (L6 : SlLaysF.n6 P ρ) (cmp L e q : Nat) (W : World) (base g n c : Nat) (ok : Nat → Prop) (rows : List (List Int))
    (hS : Kd.S (Kd.slice e (Kd.int .i64)) q W base ok (.slice (some ⟨g, 0, none⟩) n c) rows) (hn : 0 < rows.length) (hlen : ∀ x ∈ rows, x.length = L) (hsz : rows.length < 4611686018427387904)
    (eg : ∀ args w, (callFunc cmp args).run P w = .ok (.enter cmp args) w)
    (hcmp : ∀ W' A1 c1 l1 A2 c2 l2, Fr (fun k => k = g) W W' → Kd.C (Kd.int .i64) W' A1 l1.length l1 → l1.length ≤ c1 → Kd.C (Kd.int .i64) W' A2 l2.length l2 → l2.length ≤ c2 → l1.length = L → l2.length = L → Calls P cmp #[.slice A1 l1.length c1, .slice A2 l2.length c2] W' fun e w' => e = .returned (.int .i64 (lexC l1 l2)) ∧ ∃ q, w' = W'.drewN q) :
    Calls P (ρ.f 6) #[.slice (some ⟨g, 0, none⟩) n c, .func (.func cmp) #[] #[]] W fun e' w' => e' = .returned (.tuple #[]) ∧ Kd.S (Kd.slice e (Kd.int .i64)) q w' base (fun _ => True) (.slice (some ⟨g, 0, none⟩) n c) (sortG rows) ∧ Fr (fun k => k = g) W w' := by
  obtain ⟨cs, ps, hblk, hbg, hcl, hnl, hnc, hcm, htk, hsnd, hV⟩ := S_open hS
  have hpl : ps.length = rows.length := by rw [← hsnd]; simp
  have hrv := rv_of (L := L) hV (fun p hp => hlen p.2 (by rw [← hsnd]; exact List.mem_map_of_mem hp))
  obtain ⟨ds, hds⟩ : ∃ ds : List (RV W g L), ds.map (·.1) = ps := ⟨ps.pmap Subtype.mk hrv, by simp [List.map_pmap]⟩
  have hdl : ds.length = n := by rw [hnl, ← hpl, ← hds]; simp
  have hne : ds ≠ [] := by intro h; rw [h] at hdl; simp at hdl; omega
  haveI : Inhabited (RV W g L) := ⟨ds.head hne⟩
  have hcell : ∀ j (hj : j < n) (hd : j < ds.length), cs[j]? = some (RV.enc (ds[j]'hd)) := by
    intro j hj hd
    have h := congrArg (fun l => l[j]?) htk
    simp only [List.getElem?_take, if_pos hj, List.getElem?_map] at h
    rw [h, ← hds, List.getElem?_map, List.getElem?_eq_getElem hd]
    rfl
  have hH : Go.Sort.Holds (RV.enc (W := W) (g := g) (L := L)) W g 0 ds.toArray := by
    intro j hj
    have hj' : j < ds.length := by simpa using hj
    refine ⟨?_, blk_frozen hblk _⟩
    rw [Nat.zero_add, blk_cell hblk, getElem!_pos (ds.toArray) j hj]
    simpa using hcell j (by omega) hj'
  have hone : OneCell (RV.enc (W := W) (g := g) (L := L)) := by
    intro x
    obtain ⟨p, _, A, c, h, _⟩ := x
    show p.1.oneCell' = true
    rw [h]; rfl
  have key := Any.slices_SortFunc L6 (RV.enc (W := W) (g := g) (L := L)) hone (fun x y => lexC x.1.2 y.1.2)
    ⟨fun x => ltL_irrefl x.1.2, fun x y z h1 h2 => ltL_trans (a := x.1.2) (b := y.1.2) (c := z.1.2) h1 h2, fun x y z h1 h2 => ltL_ntrans (a := x.1.2) (b := y.1.2) (c := z.1.2) h1 h2⟩
    cmp #[] g 0 c ds.toArray W eg
    (by
      intro m os dk hdk x y
      obtain ⟨⟨v1, l1⟩, hl1, A1, c1, e1, hc1, hC1⟩ := x
      obtain ⟨⟨v2, l2⟩, hl2, A2, c2, e2, hc2, hC2⟩ := y
      simp only at e1 hc1 hC1 hl1 e2 hc2 hC2 hl2
      subst e1; subst e2
      have hf := Fr.sort (RV.enc (W := W) (g := g) (L := L)) W g 0 m dk os
      refine (hcmp _ A1 c1 l1 A2 c2 l2 hf (hC1 _ hf) hc1 (hC2 _ hf) hc2 hl1 hl2).mono ?_
      rintro e w' ⟨rfl, q, rfl⟩
      exact ⟨rfl, q, #[], by rw [Go.Sort.grow_empty]⟩)
    hH (blk_lt hblk) (by simpa using (by omega : ds.length < 4611686018427387904))
  rw [show (ds.toArray.size) = n by simpa using hdl] at key
  refine key.mono ?_
  rintro e' w' ⟨rfl, d', m, os, ⟨hsz', _, hperm⟩, hsort, rfl⟩
  have hsz2 : d'.size = n := by rw [hsz']; simpa using hdl
  have hds2 : ds.toArray.size = n := by simpa using hdl
  have x1 : d'.extract 0 n = d' := by rw [← hsz2]; exact Array.extract_size
  have x2 : ds.toArray.extract 0 n = ds.toArray := by rw [← hds2]; exact Array.extract_size
  rw [x1, x2] at hperm
  have hperm' : d'.toList.Perm ds := by simpa using hperm
  have hps : (d'.toList.map (·.1)).Perm ps := by rw [← hds]; exact hperm'.map _
  have hrows : ((d'.toList.map (·.1)).map (·.2)) = sortG rows := by
    refine sortG_eq (by rw [← hsnd]; exact hps.map _) ?_
    rw [List.pairwise_map, List.pairwise_map, List.pairwise_iff_getElem]
    intro i j hi hj hij
    have hi' : i < d'.size := by simpa using hi
    have hj' : j < d'.size := by simpa using hj
    have := hsort i j (Nat.zero_le _) hij (by omega)
    rw [getElem!_pos d' j hj', getElem!_pos d' i hi'] at this
    simpa [ltOf, ltL] using this
  have hf := Fr.sort (RV.enc (W := W) (g := g) (L := L)) W g 0 m d' os
  have hb' := sort_block (RV.enc (W := W) (g := g) (L := L)) W g 0 m d' os hblk
  have hcsz : (Go.Sort.putCells (RV.enc (W := W) (g := g) (L := L)) 0 d' cs.toArray).toList.length = c := by simp [Go.Sort.putCells, hcl]
  have hclose := S_close (base := base) (e := e) (q := q) (n := n) (cs := (Go.Sort.putCells (RV.enc (W := W) (g := g) (L := L)) 0 d' cs.toArray).toList) (ps := d'.toList.map (·.1)) (by simpa using hb') hbg (by rw [hcsz]; exact hnc) (by rw [hcsz]; exact hcm)
    (by
      apply List.ext_getElem?
      intro k
      rw [List.getElem?_take, List.getElem?_map, List.getElem?_map]
      by_cases hk : k < n
      · rw [if_pos hk, Array.getElem?_toList, Array.getElem?_toList, Go.Sort.putCells, Array.getElem?_mapIdx]
        have h1 : cs.toArray[k]? = some (cs[k]'(by omega)) := by simp [List.getElem?_eq_getElem (show k < cs.length by omega)]
        rw [h1, Option.map_some, if_pos ⟨Nat.zero_le _, by omega⟩, Nat.sub_zero, getElem!_pos d' k (by omega), Array.getElem?_eq_getElem (by omega)]
        rfl
      · rw [if_neg hk, Array.getElem?_toList, Array.getElem?_eq_none (by omega)]
        rfl)
    ((hV.fr hf).perm hps.symm)
  rw [hrows, hcsz] at hclose
  exact ⟨rfl, hclose, hf⟩
end Go.Proofs.Ytlkddcabjcejdaa.Base
