/- Orders that avoid patterns, made of those of one number less. No condition. -/
import Derived.Test.YtlkddcabjcejdaaBase
import Derived.Test.YtlkddcabjcejdaaBaseP
import Derived.Test.YtlkddcabjcejdaaBaseN
import Derived.Test.YtlkddcabjcejdaaBaseF
import Derived.Test.YtlkddcabjcejdaaBaseO
import Derived.Test.YtlkddcabjcejdaaBaseI
import Derived.Test.YtlkddcabjcejdaaBaseA
namespace Go.Proofs.Ytlkddcabjcejdaa.Base
open Go.RowKit Go.Proofs.YtlkddcabjcejdaaW.PrintWords
set_option linter.unusedVariables false
set_option linter.unusedSimpArgs false
/-! ### all choices, told by what they are -/
theorem chL_iff (n many : Nat) (xs : List Int) : ∀ (r : Nat) (done : List Int), r ≤ n → done.length < many →
    (xs ∈ chL n many r done ↔ ∃ t, xs = done ++ t ∧ done.length + t.length = many ∧ t.Pairwise (· < ·) ∧ ∀ x ∈ t, ((n - r : Nat) : Int) ≤ x ∧ x < (n : Int)) := by
  intro r
  induction r with
  | zero =>
    intro done hr hm
    simp only [chL, List.not_mem_nil, false_iff]
    rintro ⟨t, _, hl, _, hq⟩
    cases t with
    | nil => simp at hl; omega
    | cons y t => have := hq y (by simp); omega
  | succ r ih =>
    intro done hr hm
    rw [chL_succ, List.mem_append, ih done (by omega) hm]
    constructor
    · rintro (h | ⟨t, e, hl, hs, hq⟩)
      · unfold chA at h
        split at h
        · rename_i hlen
          refine ⟨[((n - (r + 1) : Nat) : Int)], List.mem_singleton.1 h, by simpa using hlen, by simp, fun x hx => ?_⟩
          have := List.mem_singleton.1 hx; omega
        · rename_i hlen
          simp only [List.length_append, List.length_singleton] at hlen
          obtain ⟨t, e, hl, hs, hq⟩ := (ih _ (by omega) (by simp; omega)).1 h
          refine ⟨((n - (r + 1) : Nat) : Int) :: t, by rw [e]; simp, by simp at hl ⊢; omega, List.pairwise_cons.2 ⟨fun y hy => by have := hq y hy; omega, hs⟩, fun x hx => ?_⟩
          rcases List.mem_cons.1 hx with rfl | hx
          · omega
          · have := hq x hx; omega
      · exact ⟨t, e, hl, hs, fun x hx => by have := hq x hx; omega⟩
    · rintro ⟨t, e, hl, hs, hq⟩
      cases t with
      | nil => simp at hl; omega
      | cons y t =>
        rw [List.pairwise_cons] at hs
        have hy := hq y (by simp)
        by_cases ha : y = ((n - (r + 1) : Nat) : Int)
        · left
          unfold chA
          by_cases hlen : (done ++ [((n - (r + 1) : Nat) : Int)]).length = many
          · rw [if_pos hlen]
            simp only [List.length_append, List.length_singleton] at hlen
            have : t = [] := by
              cases t with
              | nil => rfl
              | cons _ _ => simp at hl; omega
            rw [e, this, ha]; simp
          · rw [if_neg hlen]
            simp only [List.length_append, List.length_singleton] at hlen
            refine (ih _ (by omega) (by simp; simp at hl; omega)).2 ⟨t, by rw [e, ha]; simp, by simp at hl ⊢; omega, hs.2, fun x hx => ?_⟩
            have h1 := hs.1 x hx
            have h2 := hq x (by simp [hx])
            omega
        · right
          refine ⟨y :: t, e, hl, List.pairwise_cons.2 hs, fun x hx => ?_⟩
          have h2 := hq x hx
          rcases List.mem_cons.1 hx with rfl | hx
          · omega
          · have := hs.1 x hx; omega
theorem chA_iff (n many : Nat) (xs : List Int) : xs ∈ chA n many n [] ↔ xs.length = many ∧ xs.Pairwise (· < ·) ∧ ∀ x ∈ xs, 0 ≤ x ∧ x < (n : Int) := by
  unfold chA
  by_cases h : ([] : List Int).length = many
  · rw [if_pos h, List.mem_singleton]
    constructor
    · rintro rfl; exact ⟨h, by simp, by simp⟩
    · rintro ⟨h1, _, _⟩
      cases xs with
      | nil => rfl
      | cons _ _ => simp at h h1; omega
  · rw [if_neg h, chL_iff n many xs n [] (Nat.le_refl _) (by simp at h ⊢; omega)]
    constructor
    · rintro ⟨t, e, hl, hs, hq⟩
      rw [List.nil_append] at e
      subst e
      exact ⟨by simpa using hl, hs, fun x hx => by have := hq x hx; omega⟩
    · rintro ⟨h1, h2, h3⟩
      exact ⟨xs, rfl, by simpa using h1, h2, fun x hx => by have := h3 x hx; omega⟩
/-! ### patterns in an order -/
def inV (l p : List Int) : Bool := (chA l.length p.length l.length []).any (fun xs => decide (shapeL (atG l xs) = p))
def avV (rows : List (List Int)) (l : List Int) : Bool := !rows.any (inV l)
def upK (k y : Int) : Int := if y ≥ k then y + 1 else y
theorem insertL_eq (x : List Int) (k : Int) : insertL x k = x.map (upK k) ++ [k] := rfl
theorem upK_lt (k a b : Int) : upK k a < upK k b ↔ a < b := by unfold upK; split <;> split <;> omega
theorem upK_ne (k a : Int) : upK k a ≠ k := by unfold upK; split <;> omega
theorem in_insert (x p : List Int) (k : Int) (h : inV x p = true) : inV (insertL x k) p = true := by
  unfold inV at h ⊢
  rw [List.any_eq_true] at h ⊢
  obtain ⟨xs, hx, hh⟩ := h
  obtain ⟨h1, h2, h3⟩ := (chA_iff _ _ _).1 hx
  have hl : (insertL x k).length = x.length + 1 := by simp [insertL]
  refine ⟨xs, (chA_iff _ _ _).2 ⟨h1, h2, fun y hy => by have := h3 y hy; omega⟩, ?_⟩
  have hh := of_decide_eq_true hh
  refine decide_eq_true ?_
  rw [← hh]
  refine shape_of_alike ⟨by simp [atG], fun i j hi hj => ?_⟩
  have hi' : i < xs.length := by simpa [atG] using hi
  have hj' : j < xs.length := by simpa [atG] using hj
  have e : ∀ (i : Nat), i < xs.length → (atG (insertL x k) xs).getD i 0 = upK k ((atG x xs).getD i 0) := fun i hi => by
    have hm := h3 _ (List.getElem_mem hi)
    have e1 : (atG (insertL x k) xs).getD i 0 = rd (insertL x k) xs[i] := by simp [atG, List.getD_eq_getElem?_getD, List.getElem?_eq_getElem hi]
    have e2 : (atG x xs).getD i 0 = rd x xs[i] := by simp [atG, List.getD_eq_getElem?_getD, List.getElem?_eq_getElem hi]
    rw [e1, e2]
    have hlt : xs[i].toNat < x.length := by omega
    unfold rd
    rw [insertL_eq, List.getD_eq_getElem?_getD, List.getD_eq_getElem?_getD, List.getElem?_append_left (by simpa using hlt), List.getElem?_map, List.getElem?_eq_getElem hlt]
    rfl
  rw [e i hi', e j hj']
  exact upK_lt _ _ _
theorem av_insert (rows : List (List Int)) (x : List Int) (k : Int) (h : avV rows (insertL x k) = true) : avV rows x = true := by
  unfold avV at h ⊢
  simp only [Bool.not_eq_true', List.any_eq_false] at h ⊢
  exact fun p hp hh => h p hp (in_insert x p k hh)
theorem av_nil (rows : List (List Int)) (h : ∀ p ∈ rows, 1 ≤ p.length) : avV rows [] = true := by
  unfold avV
  simp only [Bool.not_eq_true', List.any_eq_false]
  intro p hp hh
  have := h p hp
  unfold inV at hh
  rw [List.any_eq_true] at hh
  obtain ⟨xs, hx, _⟩ := hh
  obtain ⟨h1, _, h3⟩ := (chA_iff _ _ _).1 hx
  cases xs with
  | nil => simp at h1; omega
  | cons y _ => have := h3 y (by simp); simp at this; omega
/-! ### an order of one number more -/
theorem insert_perm {x : List Int} {n : Nat} {k : Int} (h : x.Perm (iota 1 n)) (h1 : 1 ≤ k) (h2 : k ≤ (n : Int) + 1) : (insertL x k).Perm (iota 1 (n + 1)) := by
  have hn : x.Nodup := h.nodup_iff.2 (iota_nodup n 1)
  have hl : x.length = n := by rw [h.length_eq, iota_length]
  refine perm_of_subset _ _ ?_ ?_ (by rw [iota_length]; simp [insertL, hl])
  · rw [insertL_eq, List.nodup_append]
    refine ⟨?_, by simp, ?_⟩
    · unfold List.Nodup at hn ⊢
      rw [List.pairwise_map]
      refine hn.imp (fun {a b} hab e => hab ?_)
      have e1 := upK_lt k a b
      have e2 := upK_lt k b a
      omega
    · intro a ha b hb e
      obtain ⟨y, _, rfl⟩ := List.mem_map.1 ha
      have := List.mem_singleton.1 hb
      exact upK_ne k y (e.trans this)
  · intro y hy
    rw [iota_mem]
    rw [insertL_eq, List.mem_append] at hy
    rcases hy with hy | hy
    · obtain ⟨z, hz, rfl⟩ := List.mem_map.1 hy
      have := (iota_mem n 1 z).1 (h.mem_iff.1 hz)
      unfold upK; split <;> omega
    · have := List.mem_singleton.1 hy; omega
theorem insert_split {u : List Int} {n : Nat} (h : u.Perm (iota 1 (n + 1))) : ∃ x k, u = insertL x k ∧ x.Perm (iota 1 n) ∧ 1 ≤ k ∧ k ≤ (n : Int) + 1 := by
  have hn : u.Nodup := h.nodup_iff.2 (iota_nodup _ 1)
  have hl : u.length = n + 1 := by rw [h.length_eq, iota_length]
  have hr : ∀ y ∈ u, 1 ≤ y ∧ y ≤ (n : Int) + 1 := fun y hy => by have := (iota_mem (n + 1) 1 y).1 (h.mem_iff.1 hy); omega
  have hne : u ≠ [] := fun e => by rw [e] at hl; simp at hl
  obtain ⟨d, k, rfl⟩ : ∃ d k, u = d ++ [k] := ⟨u.dropLast, u.getLast hne, (List.dropLast_concat_getLast hne).symm⟩
  rw [List.nodup_append] at hn
  obtain ⟨hnd, _, hdk⟩ := hn
  have hk := hr k (by simp)
  have hdr : ∀ y ∈ d, 1 ≤ y ∧ y ≤ (n : Int) + 1 ∧ y ≠ k := fun y hy => ⟨(hr y (by simp [hy])).1, (hr y (by simp [hy])).2, hdk y hy k (by simp)⟩
  refine ⟨d.map (fun y => if y > k then y - 1 else y), k, ?_, ?_, hk.1, hk.2⟩
  · rw [insertL_eq, List.map_map]
    congr 1
    conv => lhs; rw [← List.map_id d]
    refine List.map_congr_left (fun y hy => ?_)
    have := hdr y hy
    simp only [Function.comp, id, upK]
    split <;> split <;> omega
  · refine perm_of_subset _ _ ?_ ?_ (by rw [iota_length]; simp at hl ⊢; omega)
    · unfold List.Nodup
      rw [List.pairwise_map]
      refine List.Pairwise.imp_of_mem (fun {a b} ha hb hab => ?_) hnd
      have h1 := hdr a ha
      have h2 := hdr b hb
      split <;> split <;> omega
    · intro y hy
      obtain ⟨z, hz, rfl⟩ := List.mem_map.1 hy
      have := hdr z hz
      rw [iota_mem]; split <;> omega
theorem insert_inj {x x' : List Int} {k k' : Int} (h : insertL x k = insertL x' k') : x = x' ∧ k = k' := by
  rw [insertL_eq, insertL_eq] at h
  obtain ⟨h1, h2⟩ := List.append_inj' h rfl
  have hk : k = k' := by simpa using h2
  subst hk
  refine ⟨?_, rfl⟩
  have inj : ∀ (a b : List Int), a.map (upK k) = b.map (upK k) → a = b := by
    intro a
    induction a with
    | nil => intro b hb; cases b with
      | nil => rfl
      | cons _ _ => simp at hb
    | cons c a ih =>
      intro b hb
      cases b with
      | nil => simp at hb
      | cons d b =>
        simp only [List.map_cons, List.cons.injEq] at hb
        have e1 := upK_lt k c d
        have e2 := upK_lt k d c
        rw [ih b hb.2, show c = d by omega]
  exact inj x x' h1
/-! ### all that avoid, number by number -/
def kids (rows : List (List Int)) (m : Nat) (x : List Int) : List (List Int) := ((iota 1 m).map (insertL x)).filter (avV rows)
def avG (rows : List (List Int)) : Nat → List (List Int)
  | 0 => [[]]
  | n + 1 => (avG rows n).flatMap (kids rows (n + 1))
theorem kids_len (rows : List (List Int)) (m : Nat) (x : List Int) : (kids rows m x).length ≤ m := by
  unfold kids
  have := List.length_filter_le (avV rows) ((iota 1 m).map (insertL x))
  simp [iota_length] at this
  exact this
theorem flat_len (rows : List (List Int)) (m : Nat) : ∀ s : List (List Int), (s.flatMap (kids rows m)).length ≤ s.length * m := by
  intro s
  induction s with
  | nil => simp
  | cons c s ih =>
    have := kids_len rows m c
    rw [List.flatMap_cons, List.length_append, List.length_cons, Nat.add_mul]; omega
theorem avG_len (rows : List (List Int)) : ∀ n : Nat, (avG rows n).length ≤ fac n := by
  intro n
  induction n with
  | zero => simp [avG, fac]
  | succ n ih =>
    have := flat_len rows (n + 1) (avG rows n)
    simp only [avG, fac]
    have h2 : (avG rows n).length * (n + 1) ≤ fac n * (n + 1) := Nat.mul_le_mul_right _ ih
    rw [Nat.mul_comm (n + 1) (fac n)]; omega
theorem avG_mem (rows : List (List Int)) (hp : ∀ p ∈ rows, 1 ≤ p.length) : ∀ (n : Nat) (u : List Int), u ∈ avG rows n ↔ u.Perm (iota 1 n) ∧ avV rows u = true := by
  intro n
  induction n with
  | zero =>
    intro u
    simp only [avG, List.mem_singleton, iota]
    constructor
    · rintro rfl; exact ⟨List.Perm.nil, av_nil rows hp⟩
    · rintro ⟨h, _⟩; exact h.eq_nil
  | succ n ih =>
    intro u
    simp only [avG, List.mem_flatMap, kids, List.mem_filter, List.mem_map]
    constructor
    · rintro ⟨x, hx, ⟨k, hk, rfl⟩, hv⟩
      have h1 := (iota_mem (n + 1) 1 k).1 hk
      exact ⟨insert_perm ((ih x).1 hx).1 (by omega) (by omega), hv⟩
    · rintro ⟨h, hv⟩
      obtain ⟨x, k, rfl, h1, h2, h3⟩ := insert_split h
      exact ⟨x, (ih x).2 ⟨h1, av_insert rows x k hv⟩, ⟨k, (iota_mem (n + 1) 1 k).2 (by omega), rfl⟩, hv⟩
theorem avG_nodup (rows : List (List Int)) : ∀ n : Nat, (avG rows n).Nodup := by
  intro n
  induction n with
  | zero => simp [avG]
  | succ n ih =>
    unfold List.Nodup at ih ⊢
    simp only [avG]
    rw [List.pairwise_flatMap]
    refine ⟨fun x _ => ?_, ?_⟩
    · unfold kids
      refine List.Pairwise.filter _ ?_
      rw [List.pairwise_map]
      exact (iota_nodup (n + 1) 1).imp (fun {a b} hab e => hab (insert_inj e).2)
    · refine ih.imp (fun {a b} hab y hy z hz e => hab ?_)
      obtain ⟨k, _, rfl⟩ := List.mem_map.1 (List.mem_filter.1 hy).1
      obtain ⟨k', _, rfl⟩ := List.mem_map.1 (List.mem_filter.1 hz).1
      exact (insert_inj e).1
theorem perm_of_nodup : ∀ (a b : List (List Int)), a.Nodup → b.Nodup → (∀ u, u ∈ a ↔ u ∈ b) → a.Perm b := by
  intro a
  induction a with
  | nil =>
    intro b _ _ h
    cases b with
    | nil => exact List.Perm.nil
    | cons c _ => exact absurd ((h c).2 (by simp)) (by simp)
  | cons c a ih =>
    intro b ha hb h
    rw [List.nodup_cons] at ha
    have hc : c ∈ b := (h c).1 (by simp)
    refine List.Perm.trans (List.Perm.cons c (ih (b.erase c) ha.2 (hb.erase c) (fun u => ?_))) (List.perm_cons_erase hc).symm
    rw [hb.mem_erase_iff]
    constructor
    · intro hu; exact ⟨fun e => ha.1 (e ▸ hu), (h u).1 (by simp [hu])⟩
    · rintro ⟨hne, hu⟩
      rcases List.mem_cons.1 ((h u).2 hu) with e | e
      · exact absurd e hne
      · exact e
theorem av_perm (rows : List (List Int)) (hp : ∀ p ∈ rows, 1 ≤ p.length) {n : Nat} (h1 : 1 ≤ n) (h7 : n ≤ 7) : ((ordersL n).filter (avV rows)).Perm (avG rows n) := by
  refine perm_of_nodup _ _ ((ordersL_nodup n).filter _) (avG_nodup rows n) (fun u => ?_)
  rw [List.mem_filter, avG_mem rows hp]
  constructor
  · rintro ⟨h, hv⟩
    obtain ⟨k, hk, rfl⟩ := List.mem_map.1 h
    exact ⟨orderAt_perm (List.mem_range.1 hk), hv⟩
  · rintro ⟨h, hv⟩
    have ho := ord_of_perm h1 h7 h
    have hl : u.length = n := by rw [h.length_eq, iota_length]
    have := ordersL_all ho
    rw [hl] at this
    exact ⟨this, hv⟩
end Go.Proofs.Ytlkddcabjcejdaa.Base
