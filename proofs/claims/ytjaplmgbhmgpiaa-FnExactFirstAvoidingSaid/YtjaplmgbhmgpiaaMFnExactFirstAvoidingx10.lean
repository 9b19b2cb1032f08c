/- The functions that FnExactFirstAvoiding comes to, with a walk for each. Made by this session's own program (wip/tools/mk.py), in the form of the kit's print; walks named in NOTES.md were written by hand. -/
import Derived.Test.YtjaplmgbhmgpiaaMFnExactFirstAvoidingx0
import Derived.Test.YtjaplmgbhmgpiaaMFnExactFirstAvoidingx1
import Derived.Test.YtjaplmgbhmgpiaaMFnExactFirstAvoidingx2
import Derived.Test.YtjaplmgbhmgpiaaMFnExactFirstAvoidingx6
import Derived.Test.YtjaplmgbhmgpiaaMFnExactFirstAvoidingx9
namespace Go.Proofs.Ytjaplmgbhmgpiaa.MFnExactFirstAvoiding
open Go.RowKit Go.Proofs.YtjaplmgbhmgpiaaW.PrintWords Go.Proofs.YtjaplmgbhmgpiaaW.PrintLast Go.Proofs.YtjaplmgbhmgpiaaW.PrintMore
attribute [local go_sem] max2_int min2_int max_two min_two max_three min_three max_four min_four   -- for this text's walks alone
set_option linter.unusedVariables false
set_option linter.unusedSimpArgs false

/-! ### shared: lawev -/
section
open Go.Proofs.Ytjaplmgbhmgpiaa.Base
/-! ### laws.toIntS, laws.eqIntS -/
theorem toInt_l (l : List Int) (hl : l.length * 8 ≤ 140737488351232) : ∀ (suf pre : List Int), l = pre ++ suf → Ev (fun k => laws_toIntS.l0 k l (pre ++ List.replicate suf.length 0) (pre.length : Int)) l := by
  intro suf
  induction suf with
  | nil =>
    intro pre e
    have h := len_end e
    refine ev_succ ?_
    simp only [laws_toIntS.l0.eq_2]
    refine ev_neg (by omega) ?_
    exact ev_now (by rw [e]; simp)
  | cons c suf ih =>
    intro pre e
    have h := len_mid e
    refine ev_succ ?_
    simp only [laws_toIntS.l0.eq_2, rd_mid' e]
    refine ev_pos (by omega) (ev_pos (by omega) (ev_pos (by simp; omega) ?_))
    rw [wrap_snoc (pre := pre) (c := c) (by omega)]
    have e2 : (pre ++ List.replicate (c :: suf).length 0).set ((pre.length : Int)).toNat c = (pre ++ [c]) ++ List.replicate suf.length 0 := by
      simp [List.replicate_succ]
    rw [e2]
    exact ih _ (snoc_mid e)
theorem toInt_ev (l : List Int) (hl : l.length * 8 ≤ 140737488351232) : Ev (fun k => laws_toIntS.f k l) l := by
  unfold laws_toIntS.f
  refine ev_pos (by omega) (ev_pos (by omega) ?_)
  have := toInt_l l hl l [] rfl
  simpa using this
theorem eqInt_l (a b : List Int) (hl : a.length * 8 ≤ 140737488351232) : ∀ (s t pre q : List Int), a = pre ++ s → b = q ++ t → pre.length = q.length → s.length = t.length → Ev (fun k => laws_eqIntS.l0 k a b (pre.length : Int)) (decide (s = t)) := by
  intro s
  induction s with
  | nil =>
    intro t pre q e e' h1 h2
    have h := len_end e
    obtain rfl : t = [] := by cases t with
      | nil => rfl
      | cons _ _ => simp at h2
    refine ev_succ ?_
    simp only [laws_eqIntS.l0.eq_2]
    refine ev_neg (by omega) ?_
    exact ev_now (by simp)
  | cons c s ih =>
    intro t pre q e e' h1 h2
    cases t with
    | nil => simp at h2
    | cons d t =>
    have h := len_mid e
    have h' := len_mid e'
    refine ev_succ ?_
    have r1 := rd_mid' e
    have r2 := rd_mid' e'
    rw [← h1] at r2
    simp only [laws_eqIntS.l0.eq_2, r1, r2]
    refine ev_pos (by omega) (ev_pos (by omega) (ev_pos (by omega) ?_))
    by_cases hc : c = d
    · refine ev_pos hc ?_
      rw [wrap_snoc (pre := pre) (c := c) (by omega)]
      refine ev_eq (ih t (pre ++ [c]) (q ++ [d]) (snoc_mid e) (snoc_mid e') (by simp [h1]) (by simpa using h2)) ?_
      simp [hc]
    · refine ev_neg hc (ev_now ?_)
      simp [hc]
theorem eqInt_ev (a b : List Int) (hl : a.length * 8 ≤ 140737488351232) : Ev (fun k => laws_eqIntS.f k a b) (decide (a = b)) := by
  unfold laws_eqIntS.f
  by_cases h : a.length = b.length
  · refine ev_pos (by omega) ?_
    exact eqInt_l a b hl a b [] [] rfl rfl rfl h
  · refine ev_neg (by omega) (ev_now ?_)
    symm
    exact decide_eq_false (fun e => h (by rw [e]))
/-! ### laws.markIntS, laws.heldIntS -/
theorem mark_l : ∀ (suf pre : List Int) (x : Int), 0 ≤ x → x + suf.length ≤ 4611686018427387904 → pre.length + suf.length ≤ 4611686018427387904 → Ev (fun k => laws_markIntS.l0 k (pre ++ suf) x (pre.length : Int)) (x + suf.length, pre ++ iota x suf.length) := by
  intro suf
  induction suf with
  | nil =>
    intro pre x h0 h1 h2
    refine ev_succ ?_
    simp only [laws_markIntS.l0.eq_2]
    refine ev_neg (by simp) ?_
    exact ev_now (by simp [iota])
  | cons c suf ih =>
    intro pre x h0 h1 h2
    simp only [List.length_cons] at h1 h2
    refine ev_succ ?_
    simp only [laws_markIntS.l0.eq_2]
    refine ev_pos (by simp; omega) (ev_pos (by omega) ?_)
    have e2 : (pre ++ c :: suf).set ((pre.length : Int)).toNat x = (pre ++ [x]) ++ suf := by simp
    rw [wrap_snoc (pre := pre) (c := x) (by omega), e2, wrap_of (by omega) (by omega)]
    refine ev_eq (ih (pre ++ [x]) (x + 1) (by omega) (by omega) (by simp; omega)) ?_
    simp [iota]; omega
theorem mark_ev (l : List Int) (x : Int) (h0 : 0 ≤ x) (h1 : x + l.length ≤ 4611686018427387904) : Ev (fun k => laws_markIntS.f k l x) (x + l.length, iota x l.length) := by
  unfold laws_markIntS.f
  have := mark_l l [] x h0 h1 (by simp; omega)
  simpa using this
theorem held_l : ∀ (n : Nat) (pre : List Int) (x : Int), 0 ≤ x → x + n ≤ 4611686018427387904 → pre.length + n ≤ 4611686018427387904 → Ev (fun k => laws_heldIntS.l0 k (pre ++ iota x n) x (pre.length : Int)) (x + n) := by
  intro n
  induction n with
  | zero =>
    intro pre x h0 h1 h2
    refine ev_succ ?_
    simp only [laws_heldIntS.l0.eq_2]
    refine ev_neg (by simp [iota]) ?_
    exact ev_now (by simp)
  | succ n ih =>
    intro pre x h0 h1 h2
    refine ev_succ ?_
    simp only [laws_heldIntS.l0.eq_2, iota, rd_mid]
    refine ev_pos (by simp; omega) (ev_pos (by omega) (ev_pos trivial ?_))
    rw [wrap_snoc (pre := pre) (c := x) (by omega), wrap_of (by omega) (by omega), show pre ++ x :: iota (x + 1) n = (pre ++ [x]) ++ iota (x + 1) n by simp]
    refine ev_eq (ih (pre ++ [x]) (x + 1) (by omega) (by omega) (by simp; omega)) ?_
    omega
theorem held_ev (n : Nat) (x : Int) (h0 : 0 ≤ x) (h1 : x + n ≤ 4611686018427387904) : Ev (fun k => laws_heldIntS.f k (iota x n) x) (x + n) := by
  unfold laws_heldIntS.f
  have := held_l n [] x h0 h1 (by simp; omega)
  simpa using this
theorem rdL_mid {rows pre suf : List (List Int)} {c : List Int} (h : rows = pre ++ c :: suf) : rd_L1 rows (pre.length : Int) = c := by rw [h]; simp [rd_L1]
theorem eqIntSS_l (rows : List (List Int)) (hl : rows.length ≤ 1048576) (hr : ∀ xs ∈ rows, xs.length * 8 ≤ 140737488351232) : ∀ (suf pre : List (List Int)), rows = pre ++ suf → Ev (fun k => laws_eqIntSS.l0 k rows rows (pre.length : Int)) true := by
  intro suf
  induction suf with
  | nil =>
    intro pre e
    have h := len_end e
    refine ev_succ ?_
    simp only [laws_eqIntSS.l0.eq_2]
    exact ev_neg (by omega) (ev_now rfl)
  | cons c suf ih =>
    intro pre e
    have h := len_mid e
    refine ev_succ ?_
    simp only [laws_eqIntSS.l0.eq_2, rdL_mid e]
    rw [wrap_snoc (pre := pre) (c := c) (by omega)]
    exact ev_pos (by omega) (ev_pos (by omega) (ev_pos (by omega) (ev_bind (eqInt_ev c c (hr c (by rw [e]; simp))) (ev_pos (by simp) (ih _ (snoc_mid e))))))
theorem eqIntSS_ev (rows : List (List Int)) (hl : rows.length ≤ 1048576) (hr : ∀ xs ∈ rows, xs.length * 8 ≤ 140737488351232) : Ev (fun k => laws_eqIntSS.f k rows rows) true := by
  unfold laws_eqIntSS.f
  exact ev_pos rfl (eqIntSS_l rows hl hr rows [] rfl)
def sumLen : List (List Int) → Nat
  | [] => 0
  | c :: s => c.length + sumLen s
def markRows : List (List Int) → Int → List (List Int)
  | [], _ => []
  | c :: s, a => iota a c.length :: markRows s (a + (c.length : Int))
theorem markRows_len : ∀ (s : List (List Int)) (a : Int), (markRows s a).length = s.length := by
  intro s
  induction s with
  | nil => intro a; rfl
  | cons c s ih => intro a; simp [markRows, ih]
theorem sumLen_le : ∀ (s : List (List Int)), (∀ xs ∈ s, xs.length ≤ 1048576) → sumLen s ≤ s.length * 1048576 := by
  intro s
  induction s with
  | nil => intro _; simp [sumLen]
  | cons c s ih =>
    intro h
    have h1 := h c (by simp)
    have h2 := ih (fun x hx => h x (by simp [hx]))
    simp only [sumLen, List.length_cons]; omega
theorem markSS_l : ∀ (s acc : List (List Int)) (a : Int), 0 ≤ a → a + sumLen s ≤ 4611686018427387904 → Ev (fun k => laws_markIntSS.go k s acc a) (a + (sumLen s : Int), acc ++ markRows s a) := by
  intro s
  induction s with
  | nil => intro acc a _ _; exact ev_now (by simp [sumLen, markRows])
  | cons c s ih =>
    intro acc a h0 h1
    simp only [sumLen] at h1
    refine ev_bind (mark_ev c a h0 (by omega)) (ev_eq (ih _ _ (by omega) (by omega)) ?_)
    simp [sumLen, markRows]; omega
theorem markSS_ev (s : List (List Int)) (h : sumLen s ≤ 4611686018427387000) : Ev (fun k => laws_markIntSS.f k s 1) (1 + (sumLen s : Int), markRows s 1) := by
  unfold laws_markIntSS.f
  have := markSS_l s [] 1 (by omega) (by omega)
  simpa using this
end

/-! ### laws_FnExactFirstAvoiding: function 9 -/
section
open Go.Proofs.Ytjaplmgbhmgpiaa.Base
def laws_FnExactFirstAvoiding.ok (k : Nat) (l1 : List (List Int)) : Prop := l1.length ≤ 1048576 ∧ (∀ xs ∈ l1, xs.length ≤ 1048576) ∧ laws_toIntSS.f k l1 = some l1 ∧ laws_eqIntSS.f k l1 l1 = some true
def laws_FnExactFirstAvoiding.done (k : Nat) (a0 : Int) (l1 : List (List Int)) (r : List Int × Bool) : Prop := spec_FirstAvoiding.f k a0 l1 = some r ∧ impl_FirstAvoiding.f k a0 l1 = some r ∧ r.1.length ≤ 1048576 ∧ laws_FnExactFirstAvoiding.ok k l1
set_option maxHeartbeats 8000000 in
set_option maxRecDepth 100000 in
theorem laws_FnExactFirstAvoiding.calls (k : Nat) (a0 : Int) (A1 : Option Addr) (c1 : Nat) (l1 : List (List Int)) (w : World) (hr1 : Kd.C (Kd.slice 3 (Kd.int .i64)) w A1 l1.length l1) (hc1 : l1.length ≤ c1) (z : Int) (hz : laws_szIntSS.f k l1 1048576 = some z) (h : z < 0 ∨ ∃ r, laws_FnExactFirstAvoiding.done k a0 l1 r) :
    Calls Try.prog 9 #[.int .i64 a0, .slice A1 l1.length c1] w fun e w' => e = .returned (.bool true) ∧ Below w.heap.size w w' := by
  have HZ := Aside0.mk hz
  have HR1 := Aside0.mk hr1
  by_cases h1 : z < 0
  · have h1b : decide (z < 0) = true := decide_eq_true h1
    clear h hz hr1
    go_enter Try.func9, Try.ntmps9
    go_wp2_with (fail)
    refine (laws_szIntSS.calls k A1 c1 l1 1048576 z _ HR1.out hc1 HZ.out).mono ?_
    rintro e_ w1 ⟨rfl, ⟨n1, rfl⟩⟩
    have HB := Aside0.mk (pw_below_drewN (Below.refl w.heap.size w) n1)
    go_wp2_with (fail)
    go_ret
    exact ⟨rfl, HB.out⟩
  · have h1b : decide (z < 0) = false := decide_eq_false h1
    obtain ⟨⟨rs, rb⟩, hsp, him, hrl, hl, hx, ht, he⟩ := h.resolve_left h1
    simp only at hrl
    have hsum := sumLen_le l1 hx
    obtain ⟨ke, hee⟩ := eqInt_ev rs rs (by omega)
    obtain ⟨km, hm⟩ := mark_ev rs 1 (by omega) (by omega)
    obtain ⟨kM, hM⟩ := markSS_ev l1 (by omega)
    obtain ⟨kH, hH⟩ := held_ev rs.length 1 (by omega) (by omega)
    have HT := Aside0.mk ht
    have HS := Aside0.mk he
    have HE := Aside0.mk (by have := hee ke (Nat.le_refl _); rwa [decide_eq_true rfl] at this)
    have HM := Aside0.mk (hm km (Nat.le_refl _))
    have HMS := Aside0.mk (hM kM (Nat.le_refl _))
    have HHS := Aside0.mk (hH kH (Nat.le_refl _))
    have HSP := Aside0.mk hsp
    have HIM := Aside0.mk him
    obtain ⟨S, hSS⟩ : ∃ S, sumLen l1 = S := ⟨_, rfl⟩
    rw [hSS] at HMS hsum
    have hS1 : ¬ (1 + (S : Int) < 0) := by omega
    have hl1 : ¬ (1 + (rs.length : Int) < 0) := by omega
    have hl2 : ((1 + (rs.length : Int)) != (1 + (rs.length : Int))) = false := by simp
    obtain ⟨rows', hrows'⟩ : ∃ rows', markRows l1 1 = rows' := ⟨_, rfl⟩
    rw [hrows'] at HMS
    obtain ⟨l0', hl0'⟩ : ∃ l', iota 1 rs.length = l' := ⟨_, rfl⟩
    rw [hl0'] at HM HHS
    have hn0 : rs.length = l0'.length := by rw [← hl0', iota_length]
    have HN := Aside0.mk hn0
    clear h hz hr1 hsp him hl hx ht he hee hm hM hH hSS hrows' hl0' hsum h1 hn0
    go_enter Try.func9, Try.ntmps9
    go_wp2_with (fail)
    refine (laws_szIntSS.calls k A1 c1 l1 1048576 z _ HR1.out hc1 HZ.out).mono ?_
    rintro e_ w1 ⟨rfl, ⟨n1, rfl⟩⟩
    have HB := Aside0.mk (pw_below_drewN (Below.refl w.heap.size w) n1)
    generalize w.drewN n1 = w1 at HB ⊢
    go_wp2_with (fail)
    refine (laws_toIntSS.calls k A1 c1 l1 l1 _ (Kd.C_below HR1.out HB.out) hc1 HT.out).mono ?_
    rintro e_ w2 ⟨v2, rfl, hv2, hb2⟩
    obtain ⟨A2, c2, e2⟩ := Kd.S_slice hv2
    subst e2
    have HV2 := Aside0.mk hv2
    replace HB := Aside0.mk (below_step HB.out hb2)
    clear hv2 hb2
    go_wp2_with (fail)
    refine (spec_FirstAvoiding.calls k  a0 A2 c2 l1 rs rb _ (Kd.S_reads' HV2.out).2.2 (Kd.S_reads' HV2.out).2.1 HSP.out).mono ?_
    rintro e_ w3 ⟨v3, rfl, hv3, hb3⟩
    obtain ⟨A3, c3, e3⟩ := (by first | exact Kd.V_slice hv3 | exact Kd.R_slice hv3)
    subst e3
    have HC3 : Aside0 (Kd.C (Kd.int .i64) w3 A3 rs.length rs) := ⟨(by first | exact (Kd.V_reads' hv3).2.2 | exact (Kd.R_reads' hv3).2.2)⟩
    have HL3 : Aside0 (rs.length ≤ c3) := ⟨(by first | exact (Kd.V_reads' hv3).2.1 | exact (Kd.R_reads' hv3).2.1)⟩
    replace HB := Aside0.mk (below_step HB.out hb3)
    have HW3 := HB
    clear HV2 hv3 hb3
    go_wp2_with (fail)
    refine (laws_toIntSS.calls k A1 c1 l1 l1 _ (Kd.C_below HR1.out HB.out) hc1 HT.out).mono ?_
    rintro e_ w4 ⟨v4, rfl, hv4, hb4⟩
    obtain ⟨A4, c4, e4⟩ := Kd.S_slice hv4
    subst e4
    have HV4 := Aside0.mk (Kd.S_mono (Kd.S_bound hv4) (fun k_ hk => hk.2.2.1))
    replace HB := Aside0.mk (below_step HB.out hb4)
    have HB2 := Aside0.mk hb4
    clear hv4 hb4
    go_wp2_with (fail)
    refine (impl_FirstAvoiding.calls k  a0 A4 c4 l1 rs rb _ (Kd.S_reads' HV4.out).2.2 (Kd.S_reads' HV4.out).2.1 HIM.out).mono ?_
    rintro e_ w5 ⟨v5, rfl, hv5, hb5⟩
    obtain ⟨A5, c5, e5⟩ := Kd.R_slice hv5
    subst e5
    have HV5 := Aside0.mk (Kd.R_lower (Kd.R_mono (Kd.R_bound hv5) (fun k_ hk => hk.2.1)) HB2.out.size)
    replace HV4 := Aside0.mk (Kd.S_below HV4.out hb5)
    replace HB := Aside0.mk (below_step HB.out hb5)
    replace HB2 := Aside0.mk (below_step HB2.out hb5)
    clear hv5 hb5
    go_wp2_with (fail)
    refine (laws_eqIntS.calls ke A5 c5 rs A3 c3 rs true _ (Kd.R_reads' HV5.out).2.2 (Kd.R_reads' HV5.out).2.1 (Kd.C_below HC3.out HB2.out) HL3.out HE.out).mono ?_
    rintro e_ w6 ⟨rfl, ⟨n6, rfl⟩⟩
    have HV4 := Aside0.mk (Kd.S_drewN HV4.out n6)
    have HV5 := Aside0.mk (Kd.R_drewN HV5.out n6)
    replace HB := Aside0.mk (pw_below_drewN HB.out n6)
    replace HB2 := Aside0.mk (pw_below_drewN HB2.out n6)
    generalize w5.drewN n6 = w6 at HV4 HV5 HB HB2 ⊢
    go_wp2_with (fail)
    refine (laws_toIntSS.calls k A1 c1 l1 l1 _ (Kd.C_below HR1.out HB.out) hc1 HT.out).mono ?_
    rintro e_ w7 ⟨v7, rfl, hv7, hb7⟩
    obtain ⟨A7, c7, e7⟩ := Kd.S_slice hv7
    subst e7
    have HV7 := Aside0.mk hv7
    replace HV4 := Aside0.mk (Kd.S_below HV4.out hb7)
    replace HV5 := Aside0.mk (Kd.R_below HV5.out hb7)
    replace HB := Aside0.mk (below_step HB.out hb7)
    replace HB2 := Aside0.mk (below_step HB2.out hb7)
    clear hv7 hb7
    go_wp2_with (fail)
    refine (laws_eqIntSS.calls k A4 c4 l1 A7 c7 l1 true _ (Kd.S_reads' HV4.out).2.2 (Kd.S_reads' HV4.out).2.1 (Kd.S_reads' HV7.out).2.2 (Kd.S_reads' HV7.out).2.1 HS.out).mono ?_
    rintro e_ w8 ⟨rfl, ⟨n8, rfl⟩⟩
    have HV4 := Aside0.mk (Kd.S_drewN HV4.out n8)
    have HV5 := Aside0.mk (Kd.R_drewN HV5.out n8)
    replace HB := Aside0.mk (pw_below_drewN HB.out n8)
    replace HB2 := Aside0.mk (pw_below_drewN HB2.out n8)
    clear HV7
    generalize w7.drewN n8 = w8 at HV4 HV5 HB HB2 ⊢
    go_wp2_with (fail)
    refine (laws_markIntSS.calls kM (fun k_ => k_ < w4.heap.size) (.slice A4 l1.length c4) l1 1 (1 + (S : Int)) rows' w3 _ HB2.out HV4.out HMS.out).mono ?_
    rintro e_ w9 ⟨rfl, hr9, hb9, hk9⟩
    replace HV5 := Aside0.mk (Kd.R_kept HV5.out hk9 (fun k_ h_ h2_ => by omega))
    replace HB := Aside0.mk (below_step HW3.out hb9)
    replace HB2 := Aside0.mk hb9
    clear hr9 hb9 hk9 HV4
    go_wp2_with (fail)
    refine (laws_eqIntS.calls ke A5 c5 rs A3 c3 rs true _ (Kd.R_reads' HV5.out).2.2 (Kd.R_reads' HV5.out).2.1 (Kd.C_below HC3.out HB2.out) HL3.out HE.out).mono ?_
    rintro e_ w10 ⟨rfl, ⟨n10, rfl⟩⟩
    have HV5 := Aside0.mk (Kd.R_drewN HV5.out n10)
    replace HB := Aside0.mk (pw_below_drewN HB.out n10)
    replace HB2 := Aside0.mk (pw_below_drewN HB2.out n10)
    generalize w9.drewN n10 = w10 at HV5 HB HB2 ⊢
    go_wp2_with (fail)
    refine (laws_markIntS.calls km (fun k_ => w4.heap.size ≤ k_) (.slice A5 rs.length c5) rs 1 (1 + (rs.length : Int)) l0' w3 _ HB2.out HV5.out HM.out).mono ?_
    rintro e_ w11 ⟨rfl, hr11, hb11, hk11⟩
    have HV6 : Aside0 (Kd.C (Kd.int .i64) w11 A5 l0'.length l0' ∧ l0'.length ≤ c5) := by
      have hh := hr11
      rw [HN.out] at hh
      exact ⟨⟨(Kd.R_reads' hh).2.2, (Kd.R_reads' hh).2.1⟩⟩
    replace HB := Aside0.mk (below_step HW3.out hb11)
    replace HB2 := Aside0.mk hb11
    clear hr11 hb11 hk11 HV5
    go_wp2_with (fail)
    refine calls_of_args (args' := #[.slice A5 l0'.length c5, .int .i64 1]) (by rw [HN.out]) ?_
    refine (laws_heldIntS.calls kH A5 c5 l0' 1 (1 + (rs.length : Int)) _ HV6.out.1 HV6.out.2 HHS.out).mono ?_
    rintro e_ w12 ⟨rfl, ⟨n12, rfl⟩⟩
    have HV6 := Aside0.mk (And.intro (Kd.C_below HV6.out.1 (pw_below_drewN (Below.refl w11.heap.size w11) n12)) HV6.out.2)
    replace HB := Aside0.mk (pw_below_drewN HB.out n12)
    replace HB2 := Aside0.mk (pw_below_drewN HB2.out n12)
    generalize w11.drewN n12 = w12 at HV6 HB HB2 ⊢
    go_wp2_with (fail)
    refine (laws_toIntSS.calls k A1 c1 l1 l1 _ (Kd.C_below HR1.out HB.out) hc1 HT.out).mono ?_
    rintro e_ w13 ⟨v13, rfl, hv13, hb13⟩
    obtain ⟨A13, c13, e13⟩ := Kd.S_slice hv13
    subst e13
    have HV13 := Aside0.mk hv13
    replace HV6 := Aside0.mk (And.intro (Kd.C_below HV6.out.1 hb13) HV6.out.2)
    replace HB := Aside0.mk (below_step HB.out hb13)
    replace HB2 := Aside0.mk (below_step HB2.out hb13)
    clear hv13 hb13
    go_wp2_with (fail)
    refine (impl_FirstAvoiding.calls k  a0 A13 c13 l1 rs rb _ (Kd.S_reads' HV13.out).2.2 (Kd.S_reads' HV13.out).2.1 HIM.out).mono ?_
    rintro e_ w14 ⟨v14, rfl, hv14, hb14⟩
    obtain ⟨A14, c14, e14⟩ := Kd.R_slice hv14
    subst e14
    have HV14 := Aside0.mk hv14
    replace HV6 := Aside0.mk (And.intro (Kd.C_below HV6.out.1 hb14) HV6.out.2)
    replace HB := Aside0.mk (below_step HB.out hb14)
    replace HB2 := Aside0.mk (below_step HB2.out hb14)
    clear hv14 hb14 HV13
    go_wp2_with (fail)
    refine (laws_eqIntS.calls ke A14 c14 rs A3 c3 rs true _ (Kd.R_reads' HV14.out).2.2 (Kd.R_reads' HV14.out).2.1 (Kd.C_below HC3.out HB2.out) HL3.out HE.out).mono ?_
    rintro e_ w15 ⟨rfl, ⟨n15, rfl⟩⟩
    have HV6 := Aside0.mk (And.intro (Kd.C_below HV6.out.1 (pw_below_drewN (Below.refl w14.heap.size w14) n15)) HV6.out.2)
    replace HB := Aside0.mk (pw_below_drewN HB.out n15)
    clear HB2 HV14 HC3
    generalize w14.drewN n15 = w15 at HV6 HB ⊢
    go_wp2_with (fail)
    refine calls_of_args (args' := #[.slice A5 l0'.length c5, .int .i64 1]) (by rw [HN.out]) ?_
    refine (laws_heldIntS.calls kH A5 c5 l0' 1 (1 + (rs.length : Int)) _ HV6.out.1 HV6.out.2 HHS.out).mono ?_
    rintro e_ w16 ⟨rfl, ⟨n16, rfl⟩⟩
    replace HB := Aside0.mk (pw_below_drewN HB.out n16)
    clear HV6
    go_wp2_with (fail)
    go_ret
    exact ⟨rfl, HB.out⟩
/-- THE ONE PURE STATEMENT of laws_FnExactFirstAvoiding. -/
def laws_FnExactFirstAvoiding.Pure : Prop := ∀ (a0 : Int) (l1 : List (List Int)), (Lit.int .i64 a0).wf = true → l1.length ≤ maxLen → (∀ xs ∈ l1, xs.length ≤ maxLen ∧ ∀ x ∈ xs, (Lit.int .i64 x).wf = true) → ∃ k z, laws_szIntSS.f k l1 1048576 = some z ∧ (z < 0 ∨ ∃ r, laws_FnExactFirstAvoiding.done k a0 l1 r)
theorem laws_FnExactFirstAvoiding.walk (P : laws_FnExactFirstAvoiding.Pure) (a0 : Int) (a1 : Option Addr) (len1 cap1 : Nat) (l1 : List (List Int)) (w : World) (w0 : (Lit.int .i64 a0).wf = true) (w1 : len1 = l1.length ∧ l1.length ≤ cap1 ∧ l1.length ≤ maxLen ∧ Kd.C (Kd.slice 3 (Kd.int .i64)) w a1 l1.length l1 ∧ ∀ xs ∈ l1, xs.length ≤ maxLen ∧ ∀ x ∈ xs, (Lit.int .i64 x).wf = true) :
    Calls Try.prog 9 #[.int .i64 a0, .slice a1 len1 cap1] w fun e w' => e = .returned (.bool true) ∧ Below w.heap.size w w' := by
  obtain ⟨rfl, hc1, hm1, hr1, hw1⟩ := w1
  obtain ⟨k, z, hz, h⟩ := P a0 l1 w0 hm1 hw1
  exact laws_FnExactFirstAvoiding.calls k a0 _ _ l1 w hr1 hc1 z hz h
end

end Go.Proofs.Ytjaplmgbhmgpiaa.MFnExactFirstAvoiding
