/- All orders of so many numbers: each once, in their sequence. No condition. -/
import Derived.Test.YtlkddcabjcejdaaBase
import Derived.Test.YtlkddcabjcejdaaBaseP
import Derived.Test.YtlkddcabjcejdaaBaseO
namespace Go.Proofs.Ytlkddcabjcejdaa.Base
open Go.RowKit Go.Proofs.YtlkddcabjcejdaaW.PrintWords
set_option linter.unusedVariables false
set_option linter.unusedSimpArgs false
def ordersL (n : Nat) : List (List Int) := (List.range (fac n)).map (orderAtL n)
theorem ordersL_len (n : Nat) : (ordersL n).length = fac n := by simp [ordersL]
theorem ordersL_mem {n : Nat} {c : List Int} (h : c ∈ ordersL n) : c.length = n := by
  obtain ⟨k, _, rfl⟩ := List.mem_map.1 h
  simp [orderAtL, atGo_length]
theorem cons_erase_perm (l : List Int) (q : Nat) (h : q < l.length) : (l.getD q 0 :: l.eraseIdx q).Perm l := by
  have e : l.getD q 0 = l[q] := by rw [List.getD_eq_getElem?_getD, List.getElem?_eq_getElem h]; rfl
  rw [e, ← take_drop_erase]
  have h2 : l = l.take q ++ l[q] :: l.drop (q + 1) := by
    rw [← List.drop_eq_getElem_cons h, List.take_append_drop]
  conv => rhs; rw [h2]
  exact List.perm_middle.symm
theorem atGo_perm : ∀ (r : Nat) (left : List Int) (k : Nat), left.length = r → k < fac r → (atGo r left k).Perm left := by
  intro r
  induction r with
  | zero =>
    intro left k hl _
    rw [List.length_eq_zero_iff.1 hl]; simp [atGo]
  | succ r ih =>
    intro left k hl hk
    have hp := fac_pos r
    have hq : k / fac r < r + 1 := by rw [fac] at hk; rw [Nat.div_lt_iff_lt_mul hp]; exact hk
    simp only [atGo]
    refine List.Perm.trans (List.Perm.cons _ (ih (left.eraseIdx (k / fac r)) (k % fac r) ?_ (Nat.mod_lt _ hp))) (cons_erase_perm left _ (by omega))
    rw [List.length_eraseIdx_of_lt (by omega)]; omega
theorem iota_nodup (n : Nat) (a : Int) : (iota a n).Nodup := (iota_sorted n a).imp (fun h => Int.ne_of_lt h)
theorem orderAt_perm {n k : Nat} (h : k < fac n) : (orderAtL n k).Perm (iota 1 n) := atGo_perm n (iota 1 n) k (iota_length _ _) h
theorem ord_of_perm {l : List Int} {n : Nat} (h1 : 1 ≤ n) (h7 : n ≤ 7) (h : l.Perm (iota 1 n)) : isOrd l = true := by
  have hl : l.length = n := by rw [h.length_eq, iota_length]
  rw [isOrd_iff]
  refine ⟨by omega, fun x hx => ?_, ?_⟩
  · have := (iota_mem n 1 x).1 (h.mem_iff.1 hx); omega
  · exact (h.nodup_iff).2 (iota_nodup n 1)
theorem ordersL_ord {n : Nat} (h1 : 1 ≤ n) (h7 : n ≤ 7) {c : List Int} (h : c ∈ ordersL n) : isOrd c = true := by
  obtain ⟨k, hk, rfl⟩ := List.mem_map.1 h
  exact ord_of_perm h1 h7 (orderAt_perm (List.mem_range.1 hk))
theorem lessN_erase (l : List Int) (q : Nat) (h : q < l.length) : lessN (l.getD q 0) (l.eraseIdx q) = lessN (l.getD q 0) l := by
  have := lessN_perm (x := l.getD q 0) (cons_erase_perm l q h)
  rw [← this, lessN_cons, if_neg (by omega)]; omega
theorem idx_at (l : List Int) (q : Nat) (h : q < l.length) (hs : l.Pairwise (· < ·)) : lessN (l.getD q 0) l = q := by
  have e : l.getD q 0 = l[q] := by rw [List.getD_eq_getElem?_getD, List.getElem?_eq_getElem h]; rfl
  have hn : l.Nodup := hs.imp (fun h => Int.ne_of_lt h)
  rw [← idx_sorted _ l hs (by rw [e]; exact List.getElem_mem h), e]
  exact hn.idxOf_getElem q h
theorem erase_sorted {l : List Int} (hs : l.Pairwise (· < ·)) (q : Nat) : (l.eraseIdx q).Pairwise (· < ·) := hs.sublist (List.eraseIdx_sublist l q)
theorem rank_at : ∀ (r : Nat) (left : List Int) (k : Nat), left.length = r → left.Pairwise (· < ·) → k < fac r → rankL (atGo r left k) = k := by
  intro r
  induction r with
  | zero => intro left k _ _ hk; simp [atGo, rankL, fac] at *; omega
  | succ r ih =>
    intro left k hl hs hk
    have hp := fac_pos r
    have hq : k / fac r < r + 1 := by rw [fac] at hk; rw [Nat.div_lt_iff_lt_mul hp]; exact hk
    have hel : (left.eraseIdx (k / fac r)).length = r := by rw [List.length_eraseIdx_of_lt (by omega)]; omega
    have hm := Nat.mod_lt k hp
    simp only [atGo, rankL, atGo_length]
    rw [ih _ _ hel (erase_sorted hs _) hm, lessN_perm (atGo_perm r _ _ hel hm), lessN_erase left _ (by omega), idx_at left _ (by omega) hs, Nat.mul_comm]
    exact Nat.div_add_mod k (fac r)
theorem at_rank : ∀ (l left : List Int), l.Perm left → left.Pairwise (· < ·) → atGo left.length left (rankL l) = l := by
  intro l
  induction l with
  | nil => intro left h _; rw [h.symm.eq_nil]; rfl
  | cons c s ih =>
    intro left h hs
    have hl : left.length = s.length + 1 := by rw [← h.length_eq]; rfl
    have hc : c ∈ left := h.mem_iff.1 (by simp)
    have hr := rankL_lt s
    have hp := fac_pos s.length
    have hless : lessN c s = left.idxOf c := by
      rw [idx_sorted c left hs hc, ← lessN_perm h, lessN_cons, if_neg (by omega)]; omega
    have hdiv : rankL (c :: s) / fac s.length = left.idxOf c := by
      simp only [rankL]
      rw [hless, Nat.mul_comm, Nat.mul_add_div hp, Nat.div_eq_of_lt hr]; rfl
    have hmod : rankL (c :: s) % fac s.length = rankL s := by
      simp only [rankL]
      rw [Nat.mul_comm, Nat.mul_add_mod, Nat.mod_eq_of_lt hr]
    have hi : left.idxOf c < left.length := List.idxOf_lt_length_of_mem hc
    have hg : left.getD (left.idxOf c) 0 = c := by
      rw [List.getD_eq_getElem?_getD, List.getElem?_eq_getElem hi]
      simp
    rw [hl, atGo, hdiv, hmod, hg, erase_idx left c hc]
    have hel : (left.erase c).length = s.length := by rw [List.length_erase_of_mem hc]; omega
    have hps : s.Perm (left.erase c) := (List.cons_perm_iff_perm_erase.1 h).2
    have := ih (left.erase c) hps (hs.sublist List.erase_sublist)
    rw [hel] at this
    rw [this]
theorem ordersL_all {l : List Int} (h : isOrd l = true) : l ∈ ordersL l.length := by
  refine List.mem_map.2 ⟨rankL l, List.mem_range.2 (rankL_lt l), ?_⟩
  have := at_rank l (iota 1 l.length) (ord_perm h).symm (iota_sorted _ _)
  rw [iota_length] at this
  exact this
/-- One list comes before another one as long. -/
def befB : List Int → List Int → Bool
  | a :: s, b :: t => if a = b then befB s t else decide (a < b)
  | _, _ => false
theorem atGo_bef : ∀ (r : Nat) (left : List Int) (k k' : Nat), left.length = r → left.Pairwise (· < ·) → k < k' → k' < fac r → befB (atGo r left k) (atGo r left k') = true := by
  intro r
  induction r with
  | zero => intro left k k' _ _ h h'; simp [fac] at h'; omega
  | succ r ih =>
    intro left k k' hl hs hk hk'
    have hp := fac_pos r
    have hq' : k' / fac r < r + 1 := by rw [fac] at hk'; rw [Nat.div_lt_iff_lt_mul hp]; exact hk'
    have hle : k / fac r ≤ k' / fac r := Nat.div_le_div_right (Nat.le_of_lt hk)
    simp only [atGo, befB]
    by_cases he : k / fac r = k' / fac r
    · rw [he, if_pos rfl]
      refine ih _ _ _ (by rw [List.length_eraseIdx_of_lt (by omega)]; omega) (erase_sorted hs _) ?_ (Nat.mod_lt _ hp)
      have h1 := Nat.div_add_mod k (fac r)
      have h2 := Nat.div_add_mod k' (fac r)
      rw [he] at h1
      omega
    · have hlt : k / fac r < k' / fac r := by omega
      have h1 : left.getD (k / fac r) 0 < left.getD (k' / fac r) 0 := by
        rw [List.getD_eq_getElem?_getD, List.getElem?_eq_getElem (by omega), List.getD_eq_getElem?_getD, List.getElem?_eq_getElem (by omega)]
        exact List.pairwise_iff_getElem.1 hs _ _ (by omega) (by omega) hlt
      rw [if_neg (by omega)]
      exact decide_eq_true h1
theorem ordersL_bef (n : Nat) : (ordersL n).Pairwise (fun a b => befB a b = true) := by
  unfold ordersL
  rw [List.pairwise_map, List.pairwise_iff_getElem]
  intro i j hi hj hij
  simp only [List.getElem_range]
  exact atGo_bef n (iota 1 n) i j (iota_length _ _) (iota_sorted _ _) hij (by simpa using hj)
theorem befB_irrefl : ∀ l : List Int, befB l l = false := by
  intro l
  induction l with
  | nil => rfl
  | cons c s ih => simp [befB, ih]
theorem ordersL_nodup (n : Nat) : (ordersL n).Nodup := (ordersL_bef n).imp (fun {a b} h e => by rw [e, befB_irrefl] at h; cases h)
end Go.Proofs.Ytlkddcabjcejdaa.Base
