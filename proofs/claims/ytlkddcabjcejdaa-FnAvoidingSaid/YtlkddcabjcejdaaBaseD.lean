/- Rows of slices, told by their cells: values and what they lead to; they may be moved, left out, put in another sequence. No condition. -/
import Derived.Test.YtlkddcabjcejdaaBase
import Derived.Test.YtlkddcabjcejdaaBaseF
namespace Go.Proofs.Ytlkddcabjcejdaa.Base
open Go.RowKit Go.Proofs.YtlkddcabjcejdaaW.PrintWords Go.Proofs.YtlkddcabjcejdaaW.PrintLast Go.Proofs.YtlkddcabjcejdaaW.PrintMore
set_option linter.unusedVariables false
set_option linter.unusedSimpArgs false
/-- Two values that do not lead to one block. -/
def ApartV (p q : Value × List Int) : Prop := ∀ k, p.1.ownBlock = some k → q.1.ownBlock = some k → False
theorem ApartV.symm {p q : Value × List Int} (h : ApartV p q) : ApartV q p := fun k h1 h2 => h k h2 h1
/-- Values, each a row of its own that is not block g, no two in one block. -/
structure Vals (e : Nat) (W : World) (base g : Nat) (ps : List (Value × List Int)) : Prop where
  row : ∀ p ∈ ps, Kd.R (Kd.int .i64) e W base (fun k => k ≠ g) p.1 p.2
  apart : ps.Pairwise ApartV
theorem Vals.sub {e : Nat} {W : World} {base g : Nat} {ps qs : List (Value × List Int)} (h : Vals e W base g ps) (hs : qs.Sublist ps) : Vals e W base g qs :=
  ⟨fun p hp => h.row p (hs.subset hp), h.apart.sublist hs⟩
theorem Vals.perm {e : Nat} {W : World} {base g : Nat} {ps qs : List (Value × List Int)} (h : Vals e W base g ps) (hs : ps.Perm qs) : Vals e W base g qs :=
  ⟨fun p hp => h.row p (hs.symm.subset hp), (hs.pairwise_iff (fun {x y} hxy => hxy.symm)).1 h.apart⟩
theorem Vals.fr {e : Nat} {W W' : World} {base g : Nat} {ps : List (Value × List Int)} (h : Vals e W base g ps) (hf : Fr (fun k => k = g) W W') : Vals e W' base g ps :=
  ⟨fun p hp => Kd.R_step (h.row p hp) (fun k hk hlt => hf.block k hlt hk), h.apart⟩
/-- The cells of a row of slices of one's own. -/
theorem S_open {e q : Nat} {W : World} {base g n c : Nat} {ok : Nat → Prop} {xs : List (List Int)} (h : Kd.S (Kd.slice e (Kd.int .i64)) q W base ok (.slice (some ⟨g, 0, none⟩) n c) xs) :
    ∃ (cs : List Value) (ps : List (Value × List Int)), W.heap[g]? = some (.cells cs.toArray q (0, 0)) ∧ base ≤ g ∧ cs.length = c ∧ n = xs.length ∧ n ≤ c ∧ c ≤ maxLen ∧ cs.take n = ps.map (·.1) ∧ ps.map (·.2) = xs ∧ Vals e W base g ps := by
  have hn := (Kd.S_reads' h).1
  obtain ⟨f, h0, inner, ho, hr⟩ := h
  rw [List.length_zipIdx] at ho
  obtain ⟨hil, ho⟩ := ho
  rcases ho with ⟨hv, _⟩ | ⟨g', cap, cur, hv, hb, hblk, hnc, hcm, hcs, htk⟩
  · cases hv
  · injection hv with e1 e2 e3
    injection e1 with e1
    injection e1 with e1
    subst e1
    subst e3
    have hil' : inner.length = xs.length := by simpa [Kd.tag, Kd.slice] using hil
    have hcs' : cur.size = c := by simpa [Kd.tag, Kd.slice] using hcs
    have htk' : cur.toList.take xs.length = inner := by simpa [Kd.tag, Kd.slice] using htk
    have each : ∀ j (hj : j < xs.length), Kd.R (Kd.int .i64) e W base (fun k => k ≠ g ∧ f k = j) (inner[j]'(by omega)) xs[j] := by
      intro j hj
      have hz : xs.zipIdx[j]? = some (xs[j], j) := by rw [List.getElem?_zipIdx, List.getElem?_eq_getElem hj]; simp
      obtain ⟨v, hv, hR⟩ := hr.2 j _ hz
      have hv' : (inner.drop j).take 1 = [v] := by simpa [Kd.tag, Kd.slice] using hv
      rw [List.drop_eq_getElem_cons (by omega)] at hv'
      rw [List.take_succ_cons, List.take_zero] at hv'
      have hvv : inner[j]'(by omega) = v := List.head_eq_of_cons_eq hv'
      rw [hvv]
      exact Kd.R_mono hR (fun k hk => ⟨fun he => hk.1.2 (by rw [he]; rfl), hk.2⟩)
    refine ⟨cur.toList, inner.zip xs, by simpa using hblk, hb, by simpa using hcs', hn, by omega, hcm, ?_, ?_, ?_, ?_⟩
    · rw [hn, htk', List.map_fst_zip (by omega)]
    · rw [List.map_snd_zip (by omega)]
    · intro p hp
      obtain ⟨j, hj, rfl⟩ := List.getElem_of_mem hp
      have hj' : j < xs.length := by simp at hj; omega
      rw [List.getElem_zip]
      exact Kd.R_mono (each j hj') (fun k hk => hk.1)
    · rw [List.pairwise_iff_getElem]
      intro i j hi hj hij k h1 h2
      have hi' : i < xs.length := by simp at hi; omega
      have hj' : j < xs.length := by simp at hj; omega
      rw [List.getElem_zip] at h1 h2
      have q1 := (each i hi').1 k h1
      have q2 := (each j hj').1 k h2
      omega
/-- .. and back. -/
theorem S_close {e q : Nat} {W : World} {base g n : Nat} {cs : List Value} {ps : List (Value × List Int)} (hb : W.heap[g]? = some (.cells cs.toArray q (0, 0))) (hg : base ≤ g) (hn : n ≤ cs.length) (hc : cs.length ≤ maxLen) (ht : cs.take n = ps.map (·.1)) (hv : Vals e W base g ps) :
    Kd.S (Kd.slice e (Kd.int .i64)) q W base (fun _ => True) (.slice (some ⟨g, 0, none⟩) n cs.length) (ps.map (·.2)) := by
  have hpl : ps.length = n := by
    have := congrArg List.length ht
    simp at this; omega
  refine ⟨fun k => ps.findIdx (fun p => decide (p.1.ownBlock = some k)), fun _ _ => trivial, cs.take n, ⟨?_, .inr ⟨g, cs.length, cs.toArray, ?_, hg, hb, ?_, hc, ?_, ?_⟩⟩, ?_, ?_⟩
  · simp [Kd.tag, Kd.slice]; omega
  · rw [List.length_zipIdx, List.length_map, hpl]
  · rw [List.length_zipIdx, List.length_map, hpl]; exact hn
  · simp [Kd.tag, Kd.slice]
  · simp [Kd.tag, Kd.slice, hpl]
  · simp [Kd.tag, Kd.slice]; omega
  · intro j p hj
    rw [List.getElem?_zipIdx, List.getElem?_map] at hj
    have hjl : j < ps.length := by
      cases h : ps[j]? with
      | none => rw [h] at hj; simp at hj
      | some _ => exact (List.getElem?_eq_some_iff.1 h).1
    rw [List.getElem?_eq_getElem hjl] at hj
    obtain rfl : (ps[j].2, 0 + j) = p := by simpa using hj
    have hcell : (cs.take n)[j]'(by simp; omega) = ps[j].1 := by
      have : (cs.take n)[j]? = (ps.map (·.1))[j]? := by rw [ht]
      rw [List.getElem?_eq_getElem (by simp; omega), List.getElem?_map, List.getElem?_eq_getElem hjl] at this
      simpa using this
    refine ⟨ps[j].1, ?_, ?_⟩
    · show ((cs.take n).drop (j * 1)).take 1 = [ps[j].1]
      rw [Nat.mul_one, List.drop_eq_getElem_cons (by simp; omega), hcell, List.take_succ_cons, List.take_zero]
    · have hR := hv.row ps[j] (List.getElem_mem hjl)
      refine Kd.R_mono (Kd.R_tight rfl hR) (fun k hk => ⟨⟨trivial, fun he => ?_⟩, ?_⟩)
      · have h1 : k = g := by injection he
        exact hR.1 k hk.symm h1
      · show ps.findIdx (fun p => decide (p.1.ownBlock = some k)) = 0 + j
        rw [Nat.zero_add]
        rw [List.findIdx_eq hjl]
        refine ⟨by simp [hk.symm], fun i hi => ?_⟩
        have := (List.pairwise_iff_getElem.1 hv.apart) i j (by omega) hjl hi k
        exact decide_eq_false (fun he => this he hk.symm)
theorem take_set_same {α : Type} (cs : List α) (i : Nat) (v : α) (h : i < cs.length) : (cs.set i v).take (i + 1) = cs.take i ++ [v] := by
  rw [List.take_set, List.take_succ_eq_append_getElem (by omega)]
  rw [List.set_append]
  simp [Nat.min_eq_left (Nat.le_of_lt h)]
theorem drop_set_lt {α : Type} (cs : List α) (i j : Nat) (v : α) (h : i < j) : (cs.set i v).drop j = cs.drop j := by
  rw [List.drop_set]; rw [if_pos h]
/-- What slices.DeleteFunc's loop knows: pre is looked at, kept are those of it that are not struck. -/
structure DI (bad : List Int → Bool) (cap : Nat) (ps : List (Value × List Int)) (cs : List Value) (pre suf : List (Value × List Int)) (i : Nat) : Prop where
  all : ps = pre ++ suf
  len : cs.length = cap
  le : ps.length ≤ cap
  ki : (pre.filter (fun p => !bad p.2)).length = i
  head : cs.take i = (pre.filter (fun p => !bad p.2)).map (·.1)
  tail : (cs.drop pre.length).take suf.length = suf.map (·.1)
  lt : i < pre.length
theorem DI.start {bad : List Int → Bool} {cap : Nat} {ps : List (Value × List Int)} {cs : List Value} {pre0 suf0 : List (List Int)} {c0 : List Int} (h : ps.map (·.2) = pre0 ++ c0 :: suf0) (hc : cs.length = cap) (hle : ps.length ≤ cap) (ht : cs.take ps.length = ps.map (·.1)) (hg : ∀ x ∈ pre0, bad x = false) (hb : bad c0 = true) :
    ∃ pre suf, DI bad cap ps cs pre suf pre0.length ∧ pre.length = pre0.length + 1 := by
  obtain ⟨P, Q, rfl, h1, h2⟩ := List.map_eq_append_iff.1 h
  obtain ⟨q, Q, rfl, h3, h4⟩ := List.map_eq_cons_iff.1 h2
  have hP : P.filter (fun p => !bad p.2) = P := by
    rw [List.filter_eq_self]
    intro p hp
    have := hg p.2 (by rw [← h1]; exact List.mem_map_of_mem hp)
    simp [this]
  have hPl : P.length = pre0.length := by rw [← h1]; simp
  have hf : (P ++ [q]).filter (fun p => !bad p.2) = P := by
    rw [List.filter_append, hP]
    simp [h3, hb]
  have e1 : cs.take P.length = P.map (·.1) := by
    have := congrArg (List.take P.length) ht
    rw [List.take_take, List.map_append] at this
    simpa using this
  have e2 : (cs.drop (P.length + 1)).take Q.length = Q.map (·.1) := by
    have := congrArg (List.drop (P.length + 1)) ht
    rw [List.drop_take] at this
    simp at this
    rw [show P.length + (Q.length + 1) - (P.length + 1) = Q.length by omega] at this
    rw [this, ← List.drop_drop]
    simp
  refine ⟨P ++ [q], Q, ⟨by simp, hc, hle, by rw [hf, hPl], by rw [hf, ← hPl, e1], by simpa using e2, by simp; omega⟩, by simp [hPl]⟩
theorem DI.skip {bad : List Int → Bool} {cap i : Nat} {ps pre t : List (Value × List Int)} {cs : List Value} {p : Value × List Int} (h : DI bad cap ps cs pre (p :: t) i) (hb : bad p.2 = true) : DI bad cap ps cs (pre ++ [p]) t i := by
  have hf : (pre ++ [p]).filter (fun p => !bad p.2) = pre.filter (fun p => !bad p.2) := by rw [List.filter_append]; simp [hb]
  have ht := congrArg (List.drop 1) h.tail
  refine ⟨by rw [h.all]; simp, h.len, h.le, by rw [hf]; exact h.ki, by rw [hf]; exact h.head, ?_, by have := h.lt; simp; omega⟩
  rw [List.drop_take] at ht
  simpa [List.drop_drop] using ht
theorem DI.keep {bad : List Int → Bool} {cap i : Nat} {ps pre t : List (Value × List Int)} {cs : List Value} {p : Value × List Int} (h : DI bad cap ps cs pre (p :: t) i) (hb : bad p.2 = false) : DI bad cap ps (cs.set i p.1) (pre ++ [p]) t (i + 1) := by
  have hf : (pre ++ [p]).filter (fun p => !bad p.2) = pre.filter (fun p => !bad p.2) ++ [p] := by rw [List.filter_append]; simp [hb]
  have hl : i < cs.length := by have := h.lt; have := h.le; have h2 := congrArg List.length h.all; have := h.len; simp at h2; omega
  have ht := congrArg (List.drop 1) h.tail
  refine ⟨by rw [h.all]; simp, by simpa using h.len, h.le, by rw [hf]; simp [h.ki], by rw [hf, take_set_same cs i p.1 hl, h.head]; simp, ?_, by have := h.lt; simp; omega⟩
  rw [List.drop_take] at ht
  have hlt := h.lt
  rw [List.length_append, List.length_singleton, drop_set_lt _ _ _ _ (by omega)]
  simpa [List.drop_drop] using ht
theorem DI.cell {bad : List Int → Bool} {cap i : Nat} {ps pre t : List (Value × List Int)} {cs : List Value} {p : Value × List Int} (h : DI bad cap ps cs pre (p :: t) i) : cs[pre.length]? = some p.1 := by
  have ht := congrArg (fun l => l[0]?) h.tail
  simpa using ht
theorem DI.bound {bad : List Int → Bool} {cap i : Nat} {ps pre suf : List (Value × List Int)} {cs : List Value} (h : DI bad cap ps cs pre suf i) : pre.length + suf.length = ps.length := by
  have h2 := congrArg List.length h.all
  simp at h2; omega
/-- Those rows that are so, as far as it can be told. -/
def keepM (g : List Int → Option Bool) : List (List Int) → Option (List (List Int))
  | [] => some []
  | c :: s => (g c).bind fun b => (keepM g s).bind fun r => some (if b = true then c :: r else r)
theorem keepM_some {g : List Int → Option Bool} : ∀ {rows r : List (List Int)}, keepM g rows = some r → (∀ x ∈ rows, ∃ b, g x = some b) ∧ r = rows.filter (fun x => g x == some true) := by
  intro rows
  induction rows with
  | nil => intro r h; simp [keepM] at h; subst h; simp
  | cons c s ih =>
    intro r h
    simp only [keepM] at h
    obtain ⟨b, hb, h⟩ := Option.bind_eq_some_iff.1 h
    obtain ⟨r', hr, h⟩ := Option.bind_eq_some_iff.1 h
    obtain ⟨h1, h2⟩ := ih hr
    have h := Option.some.inj h
    refine ⟨fun x hx => ?_, ?_⟩
    · rcases List.mem_cons.1 hx with rfl | hx
      · exact ⟨b, hb⟩
      · exact h1 x hx
    · rw [← h, h2, List.filter_cons, hb]
      cases b <;> rfl
theorem keepM_mono {g g' : List Int → Option Bool} (h : ∀ c, LeO (g c) (g' c)) : ∀ rows, LeO (keepM g rows) (keepM g' rows) := by
  intro rows
  induction rows with
  | nil => exact LeO.refl _
  | cons c s ih => exact LeO.bind (h c) (fun b => LeO.bind ih (fun r => LeO.refl _))
theorem keepM_ev {g : Nat → List Int → Option Bool} {B : List Int → Bool} : ∀ rows : List (List Int), (∀ c ∈ rows, Ev (fun k => g k c) (B c)) → Ev (fun k => keepM (g k) rows) (rows.filter B) := by
  intro rows
  induction rows with
  | nil => intro _; exact ev_now rfl
  | cons c s ih =>
    intro h
    refine ev_bind (h c (by simp)) (ev_bind (ih (fun x hx => h x (by simp [hx]))) (ev_now ?_))
    rw [List.filter_cons]
/-- The first row that is so, and what stands ahead of it and behind it. -/
theorem idxGo_split (bad : List Int → Bool) : ∀ (s : List (List Int)) (i R : Int), 0 ≤ i → idxGo bad s i = R → 0 ≤ R → ∃ pre c suf, s = pre ++ c :: suf ∧ R = i + (pre.length : Int) ∧ (∀ x ∈ pre, bad x = false) ∧ bad c = true := by
  intro s
  induction s with
  | nil => intro i R h e hR; simp [idxGo] at e; omega
  | cons c s ih =>
    intro i R h e hR
    have e2 : idxGo bad (c :: s) i = if bad c = true then i else idxGo bad s (i + 1) := rfl
    rw [e2] at e
    by_cases hb : bad c = true
    · rw [if_pos hb] at e
      exact ⟨[], c, s, rfl, by simp [e], by simp, hb⟩
    · rw [if_neg hb] at e
      obtain ⟨pre, c', suf, h1, h2, h3, h4⟩ := ih (i + 1) R (by omega) e hR
      refine ⟨c :: pre, c', suf, by rw [h1]; rfl, by rw [h2]; simp; omega, ?_, h4⟩
      intro x hx
      rcases List.mem_cons.1 hx with rfl | hx
      · simpa using hb
      · exact h3 x hx
theorem Fr.setCells {S : Nat → Prop} {g : Nat} (hg : S g) : ∀ (vs : List Value) (o : Nat) (W : World), Fr S W (W.setCells g o vs) := by
  intro vs
  induction vs with
  | nil => intro o W; exact Fr.refl _ _
  | cons v r ih => intro o W; exact (Fr.set hg o v).trans (ih (o + 1) _)
end Go.Proofs.Ytlkddcabjcejdaa.Base
