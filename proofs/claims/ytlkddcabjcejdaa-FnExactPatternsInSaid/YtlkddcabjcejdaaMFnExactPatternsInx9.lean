/- The functions that FnExactPatternsIn comes to, with a walk for each. Made by this session's own program (wip/tools/mk.py), in the form of the kit's print; walks named in NOTES.md were written by hand. -/
import Derived.Test.YtlkddcabjcejdaaMFnExactPatternsInx0
import Derived.Test.YtlkddcabjcejdaaMFnExactPatternsInx1
import Derived.Test.YtlkddcabjcejdaaMFnExactPatternsInx5
import Derived.Test.YtlkddcabjcejdaaMFnExactPatternsInx8
namespace Go.Proofs.Ytlkddcabjcejdaa.MFnExactPatternsIn
open Go.RowKit Go.Proofs.YtlkddcabjcejdaaW.PrintWords Go.Proofs.YtlkddcabjcejdaaW.PrintLast Go.Proofs.YtlkddcabjcejdaaW.PrintMore
attribute [local go_sem] max2_int min2_int max_two min_two max_three min_three max_four min_four   -- for this text's walks alone
set_option linter.unusedVariables false
set_option linter.unusedSimpArgs false

/-! ### laws_FnExactPatternsIn: function 7 -/
section
open Go.Proofs.Ytlkddcabjcejdaa.Base
def laws_FnExactPatternsIn.f (k : Nat) (l0 : List Int) (a1 : Int) : Option Bool := if (l0.length : Int) > 1048576 then some true else (spec_PatternsIn.f k l0 a1).bind fun p => (impl_PatternsIn.f k l0 a1).bind fun q => if p = q ∧ p.1.length ≤ 1048576 ∧ p.1.all (fun xs => decide (xs.length ≤ 1048576)) = true then some true else none
set_option maxHeartbeats 8000000 in
set_option maxRecDepth 100000 in
theorem laws_FnExactPatternsIn.calls (k : Nat) (A0 : Option Addr) (c0 : Nat) (l0 : List Int) (a1 : Int) (w : World) (hr0 : Kd.C (Kd.int .i64) w A0 l0.length l0) (hc0 : l0.length ≤ c0) (hl8 : l0.length * 8 ≤ 140737488351232) (h : laws_FnExactPatternsIn.f k l0 a1 = some true) :
    Calls Try.prog 7 #[.slice A0 l0.length c0, .int .i64 a1] w fun e w' => e = .returned (.bool true) ∧ Below w.heap.size w w' := by
  unfold laws_FnExactPatternsIn.f at h
  by_cases h1 : (l0.length : Int) > 1048576
  · have h1b : decide ((l0.length : Int) > 1048576) = true := decide_eq_true h1
    clear h
    go_enter Try.func7, Try.ntmps7
    go_wp2
    go_ret
    exact ⟨rfl, Below.refl _ _⟩
  · rw [if_neg h1] at h
    have h1b : decide ((l0.length : Int) > 1048576) = false := decide_eq_false h1
    obtain ⟨p, hp, h⟩ := Option.bind_eq_some_iff.1 h
    obtain ⟨q, hq, h⟩ := Option.bind_eq_some_iff.1 h
    by_cases hpq : p = q ∧ p.1.length ≤ 1048576 ∧ p.1.all (fun xs => decide (xs.length ≤ 1048576)) = true
    · obtain ⟨rfl, hrl, hrx⟩ := hpq
      obtain ⟨rows, b⟩ := p
      simp only at hrl hrx
      have hrx' : ∀ xs ∈ rows, xs.length ≤ 1048576 := fun xs hx => of_decide_eq_true (List.all_eq_true.1 hrx xs hx)
      have hsum := sumLen_le rows hrx'
      obtain ⟨kt, ht⟩ := toInt_ev l0 hl8
      obtain ⟨ke, he⟩ := eqInt_ev l0 l0 hl8
      obtain ⟨km, hm⟩ := mark_ev l0 1 (by omega) (by omega)
      obtain ⟨ks, hs⟩ := eqIntSS_ev rows hrl (fun xs hx => by have := hrx' xs hx; omega)
      obtain ⟨kM, hM⟩ := markSS_ev rows (by omega)
      obtain ⟨kH, hH⟩ := heldSS_ev rows hrl (by omega)
      have HT := Aside0.mk (ht kt (Nat.le_refl _))
      have HE := Aside0.mk (by have := he ke (Nat.le_refl _); rwa [decide_eq_true rfl] at this)
      have HM := Aside0.mk (hm km (Nat.le_refl _))
      have HS := Aside0.mk (hs ks (Nat.le_refl _))
      have HMS := Aside0.mk (hM kM (Nat.le_refl _))
      have HHS := Aside0.mk (hH kH (Nat.le_refl _))
      have HSP := Aside0.mk hp
      have HIM := Aside0.mk hq
      have HR0 := Aside0.mk hr0
      obtain ⟨S, hSS⟩ : ∃ S, sumLen rows = S := ⟨_, rfl⟩
      rw [hSS] at HMS HHS hsum
      have hS1 : ¬ (1 + (S : Int) < 0) := by omega
      have hS2 : ((1 + (S : Int)) != (1 + (S : Int))) = false := by simp
      have hl1 : ¬ (1 + (l0.length : Int) < 0) := by omega
      obtain ⟨rows', hrows'⟩ : ∃ rows', markRows rows 1 = rows' := ⟨_, rfl⟩
      rw [hrows'] at HMS HHS
      obtain ⟨l0', hl0'⟩ : ∃ l', iota 1 l0.length = l' := ⟨_, rfl⟩
      rw [hl0'] at HM
      clear h hp hq hrx hrx' ht he hm hs hM hH hr0 hSS hrows' hl0' hsum
      go_enter Try.func7, Try.ntmps7
      go_wp2_with (fail)
      refine (laws_toIntS.calls kt A0 c0 l0 l0 _ HR0.out hc0 HT.out).mono ?_
      rintro e_ w1 ⟨v1, rfl, hv1, hb1⟩
      obtain ⟨A1, c1, e1⟩ := Kd.R_slice hv1
      subst e1
      have HV1 := Aside0.mk hv1
      have HB := Aside0.mk hb1
      clear hv1 hb1
      go_wp2_with (fail)
      refine (spec_PatternsIn.calls k A1 c1 l0 a1 rows b _ (Kd.R_reads' HV1.out).2.2 (Kd.R_reads' HV1.out).2.1 HSP.out).mono ?_
      rintro e_ w2 ⟨v2, rfl, hv2, hb2⟩
      obtain ⟨A2, c2, e2⟩ := (by first | exact Kd.V_slice hv2 | exact Kd.N_slice hv2 | exact Kd.S_slice hv2 | exact Kd.R_slice hv2)
      subst e2
      have HC2 : Aside0 (Kd.C (Kd.slice 3 (Kd.int .i64)) w2 A2 rows.length rows) := ⟨(by first | exact (Kd.V_reads' hv2).2.2 | exact (Kd.N_reads' hv2).2.2 | exact (Kd.S_reads' hv2).2.2 | exact (Kd.R_reads' hv2).2.2)⟩
      have HL2 : Aside0 (rows.length ≤ c2) := ⟨(by first | exact (Kd.V_reads' hv2).2.1 | exact (Kd.N_reads' hv2).2.1 | exact (Kd.S_reads' hv2).2.1 | exact (Kd.R_reads' hv2).2.1)⟩
      replace HB := Aside0.mk (below_step HB.out hb2)
      have HW2 := HB
      clear HV1 hv2 hb2
      go_wp2_with (fail)
      refine (laws_toIntS.calls kt A0 c0 l0 l0 _ (Kd.C_below HR0.out HB.out) hc0 HT.out).mono ?_
      rintro e_ w3 ⟨v3, rfl, hv3, hb3⟩
      obtain ⟨A3, c3, e3⟩ := Kd.R_slice hv3
      subst e3
      have HV3 := Aside0.mk (Kd.R_mono (Kd.R_bound hv3) (fun k_ hk => hk.2.2.1))
      replace HB := Aside0.mk (below_step HB.out hb3)
      have HB2 := Aside0.mk hb3
      clear hv3 hb3
      go_wp2_with (fail)
      refine (impl_PatternsIn.calls k A3 c3 l0 a1 rows b _ (Kd.R_reads' HV3.out).2.2 (Kd.R_reads' HV3.out).2.1 HIM.out).mono ?_
      rintro e_ w4 ⟨v4, rfl, hv4, hb4⟩
      obtain ⟨A4, c4, e4⟩ := Kd.S_slice hv4
      subst e4
      have HV4 := Aside0.mk (Kd.S_lower (Kd.S_mono (Kd.S_bound hv4) (fun k_ hk => hk.2.1)) HB2.out.size)
      replace HV3 := Aside0.mk (Kd.R_below HV3.out hb4)
      replace HB := Aside0.mk (below_step HB.out hb4)
      have HB3 := Aside0.mk hb4
      replace HB2 := Aside0.mk (below_step HB2.out hb4)
      clear hv4 hb4
      go_wp2_with (fail)
      refine (laws_eqIntSS.calls ks A4 c4 rows A2 c2 rows true _ (Kd.S_reads' HV4.out).2.2 (Kd.S_reads' HV4.out).2.1 (Kd.C_below HC2.out HB2.out) HL2.out HS.out).mono ?_
      rintro e_ w5 ⟨rfl, ⟨n5, rfl⟩⟩
      have HV3 := Aside0.mk (Kd.R_drewN HV3.out n5)
      have HV4 := Aside0.mk (Kd.S_drewN HV4.out n5)
      replace HB := Aside0.mk (pw_below_drewN HB.out n5)
      replace HB2 := Aside0.mk (pw_below_drewN HB2.out n5)
      replace HB3 := Aside0.mk (pw_below_drewN HB3.out n5)
      generalize w4.drewN n5 = w5 at HV3 HV4 HB HB2 HB3 ⊢
      go_wp2_with (fail)
      refine (laws_toIntS.calls kt A0 c0 l0 l0 _ (Kd.C_below HR0.out HB.out) hc0 HT.out).mono ?_
      rintro e_ w6 ⟨v6, rfl, hv6, hb6⟩
      obtain ⟨A6, c6, e6⟩ := Kd.R_slice hv6
      subst e6
      have HV6 := Aside0.mk hv6
      replace HV3 := Aside0.mk (Kd.R_below HV3.out hb6)
      replace HV4 := Aside0.mk (Kd.S_below HV4.out hb6)
      replace HB := Aside0.mk (below_step HB.out hb6)
      replace HB2 := Aside0.mk (below_step HB2.out hb6)
      replace HB3 := Aside0.mk (below_step HB3.out hb6)
      clear hv6 hb6
      go_wp2_with (fail)
      refine (laws_eqIntS.calls ke A3 c3 l0 A6 c6 l0 true _ (Kd.R_reads' HV3.out).2.2 (Kd.R_reads' HV3.out).2.1 (Kd.R_reads' HV6.out).2.2 (Kd.R_reads' HV6.out).2.1 HE.out).mono ?_
      rintro e_ w7 ⟨rfl, ⟨n7, rfl⟩⟩
      have HV3 := Aside0.mk (Kd.R_drewN HV3.out n7)
      have HV4 := Aside0.mk (Kd.S_drewN HV4.out n7)
      replace HB := Aside0.mk (pw_below_drewN HB.out n7)
      replace HB2 := Aside0.mk (pw_below_drewN HB2.out n7)
      replace HB3 := Aside0.mk (pw_below_drewN HB3.out n7)
      clear HV6
      generalize w6.drewN n7 = w7 at HV3 HV4 HB HB2 HB3 ⊢
      go_wp2_with (fail)
      refine (laws_markIntS.calls km (fun k_ => k_ < w3.heap.size) (.slice A3 l0.length c3) l0 1 (1 + (l0.length : Int)) l0' w2 _ HB2.out HV3.out HM.out).mono ?_
      rintro e_ w8 ⟨rfl, hr8, hb8, hk8⟩
      replace HV4 := Aside0.mk (Kd.S_kept HV4.out hk8 (fun k_ h_ h2_ => by omega))
      replace HB := Aside0.mk (below_step HW2.out hb8)
      replace HB2 := Aside0.mk hb8
      clear hr8 hb8 hk8 HV3 HB3
      go_wp2_with (fail)
      refine (laws_eqIntSS.calls ks A4 c4 rows A2 c2 rows true _ (Kd.S_reads' HV4.out).2.2 (Kd.S_reads' HV4.out).2.1 (Kd.C_below HC2.out HB2.out) HL2.out HS.out).mono ?_
      rintro e_ w9 ⟨rfl, ⟨n9, rfl⟩⟩
      have HV4 := Aside0.mk (Kd.S_drewN HV4.out n9)
      replace HB := Aside0.mk (pw_below_drewN HB.out n9)
      replace HB2 := Aside0.mk (pw_below_drewN HB2.out n9)
      generalize w8.drewN n9 = w9 at HV4 HB HB2 ⊢
      go_wp2_with (fail)
      refine (laws_markIntSS.calls kM (fun k_ => w3.heap.size ≤ k_) (.slice A4 rows.length c4) rows 1 (1 + (S : Int)) rows' w2 _ HB2.out HV4.out HMS.out).mono ?_
      rintro e_ w10 ⟨rfl, hs10, hb10, hk10⟩
      have HN := Aside0.mk (Kd.S_reads' hs10).1
      have HV5 := Aside0.mk hs10
      replace HB := Aside0.mk (below_step HW2.out hb10)
      replace HB2 := Aside0.mk hb10
      clear hs10 hb10 hk10 HV4
      rw [HN.out] at HV5 ⊢
      go_wp2_with (fail)
      refine (laws_heldIntSS.calls kH A4 c4 rows' 1 (1 + (S : Int)) _ (Kd.S_reads' HV5.out).2.2 (Kd.S_reads' HV5.out).2.1 HHS.out).mono ?_
      rintro e_ w11 ⟨rfl, ⟨n11, rfl⟩⟩
      have HV5 := Aside0.mk (Kd.S_drewN HV5.out n11)
      replace HB := Aside0.mk (pw_below_drewN HB.out n11)
      replace HB2 := Aside0.mk (pw_below_drewN HB2.out n11)
      generalize w10.drewN n11 = w11 at HV5 HB HB2 ⊢
      go_wp2_with (fail)
      refine (laws_toIntS.calls kt A0 c0 l0 l0 _ (Kd.C_below HR0.out HB.out) hc0 HT.out).mono ?_
      rintro e_ w12 ⟨v12, rfl, hv12, hb12⟩
      obtain ⟨A12, c12, e12⟩ := Kd.R_slice hv12
      subst e12
      have HV12 := Aside0.mk hv12
      replace HV5 := Aside0.mk (Kd.S_below HV5.out hb12)
      replace HB := Aside0.mk (below_step HB.out hb12)
      replace HB2 := Aside0.mk (below_step HB2.out hb12)
      clear hv12 hb12
      go_wp2_with (fail)
      refine (impl_PatternsIn.calls k A12 c12 l0 a1 rows b _ (Kd.R_reads' HV12.out).2.2 (Kd.R_reads' HV12.out).2.1 HIM.out).mono ?_
      rintro e_ w13 ⟨v13, rfl, hv13, hb13⟩
      obtain ⟨A13, c13, e13⟩ := Kd.S_slice hv13
      subst e13
      have HV13 := Aside0.mk hv13
      replace HV5 := Aside0.mk (Kd.S_below HV5.out hb13)
      replace HB := Aside0.mk (below_step HB.out hb13)
      replace HB2 := Aside0.mk (below_step HB2.out hb13)
      clear hv13 hb13 HV12
      go_wp2_with (fail)
      rw [← HN.out]
      refine (laws_eqIntSS.calls ks A13 c13 rows A2 c2 rows true _ (Kd.S_reads' HV13.out).2.2 (Kd.S_reads' HV13.out).2.1 (Kd.C_below HC2.out HB2.out) HL2.out HS.out).mono ?_
      rintro e_ w14 ⟨rfl, ⟨n14, rfl⟩⟩
      have HV5 := Aside0.mk (Kd.S_drewN HV5.out n14)
      replace HB := Aside0.mk (pw_below_drewN HB.out n14)
      clear HB2 HV13 HC2
      generalize w13.drewN n14 = w14 at HV5 HB ⊢
      go_wp2_with (fail)
      rw [HN.out]
      refine (laws_heldIntSS.calls kH A4 c4 rows' 1 (1 + (S : Int)) _ (Kd.S_reads' HV5.out).2.2 (Kd.S_reads' HV5.out).2.1 HHS.out).mono ?_
      rintro e_ w15 ⟨rfl, ⟨n15, rfl⟩⟩
      replace HB := Aside0.mk (pw_below_drewN HB.out n15)
      clear HV5
      go_wp2_with (fail)
      go_ret
      exact ⟨rfl, HB.out⟩
    · rw [if_neg hpq] at h; cases h
/-- THE ONE PURE STATEMENT of laws_FnExactPatternsIn. -/
def laws_FnExactPatternsIn.Pure : Prop := ∀ (l0 : List Int) (a1 : Int), l0.length ≤ maxLen → l0.length * 8 ≤ 140737488351232 → (∀ x ∈ l0, (Lit.int .i64 x).wf = true) → (Lit.int .i64 a1).wf = true → ∃ k, laws_FnExactPatternsIn.f k l0 a1 = some true
theorem laws_FnExactPatternsIn.walk (P : laws_FnExactPatternsIn.Pure) (a0 : Option Addr) (len0 cap0 : Nat) (z0 : List Int) (a1 : Int) (w : World) (w0 : (a0 = none ∧ len0 = 0 ∧ cap0 = 0 ∧ z0 = []) ∨ ∃ x, a0 = some x ∧ len0 ≤ cap0 ∧ cap0 ≤ maxLen ∧ z0.length = cap0 ∧ (∀ i, i < z0.length → w.cell? (x.add i) = some (.int .i64 (z0.getD i 0))) ∧ ∀ n ∈ z0, (Lit.int .i64 n).wf = true) (y0 : len0 * 8 ≤ 140737488351232) (w1 : (Lit.int .i64 a1).wf = true) :
    Calls Try.prog 7 #[.slice a0 len0 cap0, .int .i64 a1] w fun e w' => e = .returned (.bool true) ∧ Below w.heap.size w w' := by
  obtain ⟨l0, rfl, hr0, hm0, hw0, hc0⟩ := ReadsInt.ofRowC w0
  obtain ⟨k, h⟩ := P l0 a1 hm0 y0 hw0 w1
  refine (laws_FnExactPatternsIn.calls k _ _ l0 a1 w (Kd.C_of_reads (d := (0 : Int)) (h1 := fun _ => rfl) hr0) hc0 y0 h).mono ?_
  rintro e w' ⟨rfl, hd⟩
  exact ⟨rfl, hd⟩
end

end Go.Proofs.Ytlkddcabjcejdaa.MFnExactPatternsIn
