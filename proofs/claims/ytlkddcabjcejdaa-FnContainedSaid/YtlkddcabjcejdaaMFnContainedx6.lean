/- Functions that FnContained comes to, a walk for each: by wip/tools/mk.py and post.py. No condition. -/
import Derived.Test.YtlkddcabjcejdaaMFnContainedx0
import Derived.Test.YtlkddcabjcejdaaMFnContainedx4
import Derived.Test.YtlkddcabjcejdaaMFnContainedx5
namespace Go.Proofs.Ytlkddcabjcejdaa.MFnContained
open Go.RowKit Go.Proofs.YtlkddcabjcejdaaW.PrintWords Go.Proofs.YtlkddcabjcejdaaW.PrintLast Go.Proofs.YtlkddcabjcejdaaW.PrintMore
attribute [local go_sem] max2_int min2_int max_two min_two max_three min_three max_four min_four
set_option linter.unusedVariables false
set_option linter.unusedSimpArgs false

/-! ### impl_tidied: function 163 -/
section
open Go.Proofs.Ytlkddcabjcejdaa.Base
theorem cmpEq_l (a b : List Int) (hl : a.length * 8 ≤ 140737488351232) : ∀ (s t pre q : List Int), a = pre ++ s → b = q ++ t → pre.length = q.length → s.length = t.length → Ev (fun k => slices_Equal_int_int.l0 k a b (a.length : Int) (pre.length : Int)) (decide (s = t)) := by
 intro s
 induction s with
 | nil =>
  intro t pre q e e' h1 h2
  have h := len_end e
  obtain rfl : t = [] := by cases t with
   | nil => rfl
   | cons _ _ => simp at h2
  refine ev_succ ?_
  simp only [slices_Equal_int_int.l0.eq_2]
  exact ev_neg (by omega) (ev_now (by simp))
 | cons c s ih =>
  intro t pre q e e' h1 h2
  cases t with
  | nil => simp at h2
  | cons d t =>
  have h := len_mid e
  have h' := len_mid e'
  refine ev_succ ?_
  have r1 := rd_mid' e
  have r2 := rd_mid' e'
  rw [← h1] at r2
  simp only [slices_Equal_int_int.l0.eq_2, r1, r2]
  refine ev_pos (by omega) (ev_pos (by omega) (ev_pos (by omega) (ev_pos (by omega) ?_)))
  by_cases hc : c = d
  · refine ev_pos hc ?_
    rw [wrap_snoc (pre := pre) (c := c) (by omega)]
    refine ev_eq (ih t (pre ++ [c]) (q ++ [d]) (snoc_mid e) (snoc_mid e') (by simp [h1]) (by simpa using h2)) ?_
    simp [hc]
  · exact ev_neg hc (ev_now (by simp [hc]))
theorem cmpEq_ev (a b : List Int) (hl : a.length * 8 ≤ 140737488351232) : Ev (fun k => slices_Equal_int_int.f k a b) (decide (a = b)) := by
 unfold slices_Equal_int_int.f
 by_cases h : a.length = b.length
 · exact ev_pos (by omega) (cmpEq_l a b hl a b [] [] rfl rfl rfl h)
 · refine ev_neg (by omega) (ev_now ?_)
   symm
   exact decide_eq_false (fun e => h (by rw [e]))
theorem cmpEq_calls (A0 : Option Addr) (c0 : Nat) (l0 : List Int) (A1 : Option Addr) (c1 : Nat) (l1 : List Int) (b : Bool) (w : World) (h0 : l0.length ≤ 1000) (hr0 : Kd.C (Kd.int .i64) w A0 l0.length l0) (hc0 : l0.length ≤ c0) (hr1 : Kd.C (Kd.int .i64) w A1 l1.length l1) (hc1 : l1.length ≤ c1) (hb : decide (l0 = l1) = b) :
 Calls Try.prog 177 #[.slice A0 l0.length c0, .slice A1 l1.length c1] w fun e w' => e = .returned (.bool b) ∧ ∃ n, w' = w.drewN n := by
 obtain ⟨k, hk⟩ := cmpEq_ev l0 l1 (by omega)
 refine (slices_Equal_int_int.calls k A0 c0 l0 A1 c1 l1 b w hr0 hc0 hr1 hc1 (by have := hk k (Nat.le_refl _); rwa [hb] at this)).mono ?_
 rintro e w' ⟨rfl, ⟨n, rfl⟩⟩
 exact ⟨rfl, n, rfl⟩
theorem vals_cell {e : Nat} {W : World} {base g : Nat} {ps : List (Value × List Int)} (hv : Vals e W base g ps) {p : Value × List Int} (hp : p ∈ ps) : ∃ A c, p.1 = .slice A p.2.length c ∧ p.2.length ≤ c ∧ ∀ W', Fr (fun k => k = g) W W' → Kd.C (Kd.int .i64) W' A p.2.length p.2 := by
 obtain ⟨v, xs⟩ := p
 have hR := hv.row _ hp
 obtain ⟨A, c, e1⟩ := Kd.R_slice hR
 simp only at e1 hR
 subst e1
 exact ⟨A, c, rfl, (Kd.R_reads' hR).2.1, fun W' hf => (Kd.R_reads' (R_fr hR hf)).2.2⟩
set_option maxHeartbeats 8000000 in
set_option maxRecDepth 100000 in
theorem compactFunc_eq (xs : List (List Int)) (w : World) (base g cap : Nat) (ok : Nat → Prop) (hS : Kd.S (Kd.slice 3 (Kd.int .i64)) 22 w base ok (.slice (some ⟨g, 0, none⟩) xs.length cap) xs) (hlen : xs.length ≤ 4611686018427387903) (h7 : ∀ x ∈ xs, x.length ≤ 1000) (h2 : 2 ≤ xs.length) :
 Calls Try.prog 251 #[.slice (some ⟨g, 0, none⟩) xs.length cap, .func (.func 177) #[] #[]] w fun e w' => e = .returned (.slice (some ⟨g, 0, none⟩) (compactG xs).length cap) ∧ Kd.S (Kd.slice 3 (Kd.int .i64)) 22 w' base (fun _ => True) (.slice (some ⟨g, 0, none⟩) (compactG xs).length cap) (compactG xs) ∧ Fr (fun k => k = g) w w' := by
 obtain ⟨cs, ps, hblk, hbg, hcl, _, hnc, hcm, htk, hsnd, hV⟩ := S_open hS
 have hpl : ps.length = xs.length := by rw [← hsnd]; simp
 obtain ⟨p0, ps1, hps⟩ : ∃ p0 ps1, ps = p0 :: ps1 := by
  cases ps with
  | nil => simp at hpl; omega
  | cons a t => exact ⟨a, t, rfl⟩
 have hp1l : ps1.length + 1 = xs.length := by rw [← hpl, hps]; simp
 have HS := zk hS
 have HV := zk hV
 have HSND := zk hsnd
 have HPL := zk hpl
 have HBLK := zk hblk
 have HTK := zk (show cs.take ps.length = ps.map (·.1) by rw [hpl]; exact htk)
 have HCM := zk (And.intro hbg (And.intro hnc hcm))
 have HCL := zk hcl
 have H7 := zk (show ∀ p ∈ ps, p.2.length ≤ 1000 from fun p hp => h7 p.2 (by rw [← hsnd]; exact List.mem_map_of_mem hp))
 have HCI := zk (CI1.start hps)
 have HP1 := zk hp1l
 have hl2 : ¬ ((xs.length : Int) < 2) := by omega
 have hl2b : decide ((xs.length : Int) < 2) = false := decide_eq_false hl2
 have HHL := zk hlen
 have HB0 := zk (Below.refl w.heap.size w)
 clear hS hV hsnd hpl hblk htk hbg hnc hcm hcl h7 hps hp1l hlen h2
 go_enter Try.func251, Try.ntmps251
 go_wp2
 go_loopg [5] ps1.length (fun kq v5 wr => ∃ (pre : List (Value × List Int)) (last : Value × List Int) (suf : List (Value × List Int)), v5 = .int .i64 ((pre.length : Int) + 1) ∧ kq = suf.length ∧ Aside0 (CI1 ps pre last suf) ∧ Aside0 (wr.heap[g]? = some (.cells cs.toArray 22 (0, 0))) ∧ Aside0 (Below w.heap.size w wr))
 case atStart => exact ⟨[], p0, ps1, by simp, rfl, HCI, HBLK, HB0⟩
 case round =>
  clear HCI HBLK HB0
  obtain ⟨pre, last, suf, rfl, rfl, HCI, HBK, HB⟩ := hrel
  have hall := congrArg List.length HCI.out.all
  have hpl := HPL.out
  have hhl := HHL.out
  cases suf with
  | nil =>
   simp only [List.length_append, List.length_cons, List.length_nil] at hall
   have hg : ¬ ((pre.length : Int) + 1 < (xs.length : Int)) := by omega
   have hgb : decide ((pre.length : Int) + 1 < (xs.length : Int)) = false := decide_eq_false hg
   have hce : compactG xs = xs := by rw [← HSND.out, ← compactP_map, compactP_nil_end HCI.out]
   have HCE := zk hce
   clear hall hpl hce hhl
   go_wp2
   go_ret
   exact ⟨by rw [HCE.out]; rfl, by rw [HCE.out]; exact Kd.S_mono (Kd.S_below HS.out HB.out) (fun _ _ => trivial), Fr.of_below HB.out⟩
  | cons c t =>
   simp only [List.length_append, List.length_cons] at hall
   have hg : (pre.length : Int) + 1 < (xs.length : Int) := by omega
   have hgb : decide ((pre.length : Int) + 1 < (xs.length : Int)) = true := decide_eq_true hg
   obtain ⟨vl, xl⟩ := last
   obtain ⟨vc, xc⟩ := c
   have hml : (vl, xl) ∈ ps := by rw [HCI.out.all]; simp
   have hmc : (vc, xc) ∈ ps := by rw [HCI.out.all]; simp
   obtain ⟨Al, cl, el, hcl, hCl⟩ := vals_cell HV.out hml
   obtain ⟨Ac, cc, ec, hcc, hCc⟩ := vals_cell HV.out hmc
   simp only at el ec hcl hcc hCl hCc
   subst el
   subst ec
   have hcs : ∀ j : Nat, (cs.take ps.length)[j]? = (ps.map (fun p => p.1))[j]? := fun j => by rw [HTK.out]
   have hx0 : wr.cell? ⟨g, pre.length, none⟩ = some (.slice Al xl.length cl) := by
    rw [blk_cell HBK.out]
    have := hcs pre.length
    rw [List.getElem?_take, if_pos (by omega)] at this
    rw [List.getElem?_toArray, this, HCI.out.all]; simp
   have hx1 : wr.cell? ⟨g, pre.length + 1, none⟩ = some (.slice Ac xc.length cc) := by
    rw [blk_cell HBK.out]
    have := hcs (pre.length + 1)
    rw [List.getElem?_take, if_pos (by omega)] at this
    rw [List.getElem?_toArray, this, HCI.out.all]; simp
   have HFW := zk (Fr.of_below (S := fun k => k = g) HB.out)
   have HRL := zk (hCl wr HFW.out)
   have HRC := zk (hCc wr HFW.out)
   have h7c := H7.out _ hmc
   have hg0 : (0 : Int) ≤ (pre.length : Int) + 1 := by omega
   have hgl : (pre.length : Int) < (xs.length : Int) := by omega
   have hw1 : IntKind.i64.wrap ((pre.length : Int) + 1 - 1) = (pre.length : Int) := by rw [i64_w]; unfold wrap64; omega
   have hbd : (pre.length : Int) + 1 ≤ 4611686018427387903 := by omega
   simp only at h7c
   clear hcs hml hmc hall hpl hhl
   by_cases heq : xc = xl
   · have hbq := zk (show decide (xc = xl) = true from decide_eq_true heq)
     have HEQ := zk heq
     clear heq
     have hT : ((pre.length : Int) + 1).toNat = pre.length + 1 := by omega
     have hcapp : pre.length + 1 < cap := by have := HCM.out.2.1; have := congrArg List.length HCI.out.all; have := HPL.out; simp at *; omega
     have hcapn : ¬ cap = pre.length + 1 := by omega
     have hxsn : pre.length + 1 ≤ xs.length := by omega
     go_wp2
     go_quiet ((go_at_call 177; (with_reducible refine (cmpEq_calls Ac cc xc Al cl xl true _ h7c ?side1 hcc ?side3 hcl hbq.out).mono ?_); (case side1 => repeat (first | exact HRC.out | (with_reducible refine zu ?_ _) | (with_reducible refine zw ?_))); (case side3 => repeat (first | exact HRL.out | (with_reducible refine zu ?_ _) | (with_reducible refine zw ?_))); rintro e w' ⟨rfl, ⟨nd, rfl⟩⟩; (try first | exact ⟨rfl, _, World.drewN_drewN _ _ _⟩ | exact ⟨rfl, _, Eq.trans (World.drewN_drewN _ _ _) (congrArg (World.drewN _) (Nat.add_assoc _ _ _))⟩)))
     go_wp2
     have HT := zk (HCI.out.turn HEQ.out HCL.out (by have := HPL.out; have := HCM.out.2.1; omega) HTK.out)
     have HBQ := zk (blk_drewN HBK.out nq)
     have HFQ := zk (Fr.of_below (S := fun k => k = g) (zd HB.out nq))
     generalize wr.drewN nq = wq at HBQ HFQ ⊢
     go_loopg [5, 7] t.length (fun kq v5 v7 wr => ∃ (pre2 : List (Value × List Int)) (last2 : Value × List Int) (suf2 : List (Value × List Int)) (cs2 : List Value) (i d : Nat), v5 = .int .i64 (i : Int) ∧ v7 = .int .i64 ((d : Int) + 1) ∧ kq = suf2.length ∧ Aside0 (pre2.length = pre.length + 1 + d) ∧ Aside0 (CI cap ps cs2 pre2 last2 suf2 i) ∧ Aside0 (wr.heap[g]? = some (.cells cs2.toArray 22 (0, 0))) ∧ Aside0 (Fr (fun k => k = g) w wr))
     case atStart => exact ⟨pre ++ [(.slice Al xl.length cl, xl)], (.slice Ac xc.length cc, xc), t, cs, pre.length + 1, 0, by simp, by simp, rfl, ⟨by simp⟩, HT, HBQ, HFQ⟩
     case round =>
      clear HT HBQ HFQ HCI HBK HB HRL HRC HFW hx0 hx1 HEQ hbq hg hgb hg0 hgl hw1 hcl hcc hCl hCc h7c hT
      obtain ⟨pre2, last2, suf2, cs2, i, d, rfl, rfl, rfl, HPD, HCI, HBK, HF⟩ := hrel
      have hbd2 := HCI.out.bound
      have hpl := HPL.out
      have hlt := HCI.out.lt
      have hcl2 := HCI.out.len
      have hpd := HPD.out
      have hhl := HHL.out
      obtain ⟨hbg, hnc, hcm⟩ := HCM.out
      cases suf2 with
      | nil =>
       simp only [List.length_nil] at hbd2
       have hg : ¬ ((d : Int) + 1 < ((xs.length - (pre.length + 1) : Nat) : Int)) := by omega
       have hgb : decide ((d : Int) + 1 < ((xs.length - (pre.length + 1) : Nat) : Int)) = false := decide_eq_false hg
       have hcells : ∀ t, t < xs.length - i → (wr.cell? ⟨g, i + t, none⟩).isSome = true := fun t ht => by
        rw [blk_cell HBK.out]
        have : i + t < cs2.length := by omega
        simp [List.getElem?_eq_getElem this]
       have hcl0 := fun ty => Lib.run_clear_slice (P := Try.prog) wr 28 22 ty (.slice none 0 0) Try.underlying28 Try.zeroValue22 rfl rfl g i (xs.length - i) (cap - i) (by omega) hcells (fun t _ => blk_frozen HBK.out _)
       obtain ⟨cur, hb2, hs2, hl2⟩ := setCells_row (List.replicate (xs.length - i) (.slice none 0 0)) i wr cs2.toArray HBK.out (by simp; omega)
       have hFr : Fr (fun k => k = g) w (wr.setCells g i (List.replicate (xs.length - i) (.slice none 0 0))) := HF.out.trans (Fr.setCells (S := fun k => k = g) rfl _ _ _)
       have hall := HCI.out.all
       have hki := HCI.out.ki
       have hhd := HCI.out.head
       have hcp : compactP (pre2 ++ [last2]) = compactP ps := by rw [hall]
       rw [hcp] at hki hhd
       have hkeep : (compactP ps).map (·.2) = compactG xs := by rw [compactP_map, HSND.out]
       have hil : (compactG xs).length = i := by rw [← hkeep, List.length_map, hki]
       have hcur : cur.toList.take i = (compactP ps).map (·.1) := by
        rw [hl2, List.take_append_of_le_length (by simp; omega), List.take_append_of_le_length (by simp; omega)]
        rw [← hhd, List.take_take, Nat.min_self]
       have hsz : cur.toList.length = cap := by rw [Array.length_toList, hs2]; simpa using hcl2
       have hclose := S_close (base := base) (cs := cur.toList) (by simpa using hb2) hbg (show i ≤ cur.toList.length by omega) (by rw [hsz]; exact hcm) hcur ((HV.out.fr hFr).sub (compactP_sub ps))
       rw [hkeep, hsz] at hclose
       have HIL := zk hil
       have HX := zk (And.intro hclose hFr)
       have hic : i < cap := by omega
       have hic2 : ¬ cap = i := by omega
       have hii : (i : Int) ≤ (xs.length : Int) := by omega
       clear hclose hFr hkeep hall hki hhd hil hcur hsz hb2 hs2 hl2 hcells hlt hbd2 hcl2 hpl hpd hhl hcp hbg hnc hcm hg
       go_wp2
       go_ret
       exact ⟨by rw [HIL.out]; rfl, by rw [HIL.out]; exact HX.out.1, HX.out.2⟩
      | cons c2 t2 =>
       simp only [List.length_cons] at hbd2
       have hg : (d : Int) + 1 < ((xs.length - (pre.length + 1) : Nat) : Int) := by omega
       have hgb : decide ((d : Int) + 1 < ((xs.length - (pre.length + 1) : Nat) : Int)) = true := decide_eq_true hg
       have hx0 : wr.cell? ⟨g, pre.length + 1 + d, none⟩ = some last2.1 := by
        rw [blk_cell HBK.out, ← hpd, List.getElem?_toArray]; exact HCI.out.cell0
       have hx1 : wr.cell? ⟨g, pre.length + 1 + (d + 1), none⟩ = some c2.1 := by
        rw [blk_cell HBK.out, show pre.length + 1 + (d + 1) = pre2.length + 1 by omega, List.getElem?_toArray]; exact HCI.out.cell1
       have hml : last2 ∈ ps := by rw [HCI.out.all]; simp
       have hmc : c2 ∈ ps := by rw [HCI.out.all]; simp
       obtain ⟨vl, xl2⟩ := last2
       obtain ⟨vc, xc2⟩ := c2
       obtain ⟨Al2, cl2, el, hcl2', hCl⟩ := vals_cell HV.out hml
       obtain ⟨Ac2, cc2, ec, hcc2, hCc⟩ := vals_cell HV.out hmc
       simp only at el ec hcl2' hcc2 hCl hCc hx0 hx1
       subst el
       subst ec
       have HRL := zk (hCl wr HF.out)
       have HRC := zk (hCc wr HF.out)
       have h7c := H7.out _ hmc
       simp only at h7c
       have hold : ∃ old, cs2[i]? = some old := ⟨cs2[i]'(by omega), List.getElem?_eq_getElem _⟩
       obtain ⟨old, hold⟩ := hold
       have ci : wr.cell? ⟨g, i, none⟩ = some old := by rw [blk_cell HBK.out, List.getElem?_toArray]; exact hold
       have fi := blk_frozen HBK.out i
       have hib : (i : Int) ≤ 4611686018427387904 := by omega
       have hix : (i : Int) < (xs.length : Int) := by omega
       have hixn : i < xs.length := by omega
       have hdb : (d : Int) + 1 ≤ 4611686018427387904 := by omega
       have hT2 : ((d : Int) + 1).toNat = d + 1 := by omega
       have hd0 : (0 : Int) ≤ (d : Int) + 1 := by omega
       have hdl : (d : Int) < ((xs.length - (pre.length + 1) : Nat) : Int) := by omega
       have hdw : IntKind.i64.wrap ((d : Int) + 1 - 1) = (d : Int) := by rw [i64_w]; unfold wrap64; omega
       clear hcl2
       have hcl2 := hcl2'
       have HPD2 := zk (show pre2.length + 1 = pre.length + 1 + (d + 1) by omega)
       clear hcl2' hml hmc hCl hCc hbd2 hlt hpl hpd hhl hbg hnc hcm hold
       by_cases heq : xc2 = xl2
       · have hbq := zk (show decide (xc2 = xl2) = true from decide_eq_true heq)
         have HEQ := zk heq
         clear heq
         go_wp2
         go_quiet ((go_at_call 177; (with_reducible refine (cmpEq_calls Ac2 cc2 xc2 Al2 cl2 xl2 true _ h7c ?side1 hcc2 ?side3 hcl2 hbq.out).mono ?_); (case side1 => repeat (first | exact HRC.out | (with_reducible refine zu ?_ _) | (with_reducible refine zw ?_))); (case side3 => repeat (first | exact HRL.out | (with_reducible refine zu ?_ _) | (with_reducible refine zw ?_))); rintro e w' ⟨rfl, ⟨nd, rfl⟩⟩; (try first | exact ⟨rfl, _, World.drewN_drewN _ _ _⟩ | exact ⟨rfl, _, Eq.trans (World.drewN_drewN _ _ _) (congrArg (World.drewN _) (Nat.add_assoc _ _ _))⟩)))
         go_wp2
         go_roundg t2.length
         case measure => simp
         case rel => exact ⟨pre2 ++ [(.slice Al2 xl2.length cl2, xl2)], (.slice Ac2 xc2.length cc2, xc2), t2, cs2, i, d + 1, rfl, by simp [wrap64], rfl, ⟨by rw [List.length_append, List.length_singleton]; exact HPD2.out⟩, ⟨HCI.out.skip HEQ.out⟩, ⟨blk_drewN HBK.out _⟩, ⟨HF.out.trans (Fr.of_below (zd (Below.refl _ _) _))⟩⟩
       · have hbq := zk (show decide (xc2 = xl2) = false from decide_eq_false heq)
         have HNE := zk heq
         clear heq
         go_wp2
         go_quiet ((go_at_call 177; (with_reducible refine (cmpEq_calls Ac2 cc2 xc2 Al2 cl2 xl2 false _ h7c ?side1 hcc2 ?side3 hcl2 hbq.out).mono ?_); (case side1 => repeat (first | exact HRC.out | (with_reducible refine zu ?_ _) | (with_reducible refine zw ?_))); (case side3 => repeat (first | exact HRL.out | (with_reducible refine zu ?_ _) | (with_reducible refine zw ?_))); rintro e w' ⟨rfl, ⟨nd, rfl⟩⟩; (try first | exact ⟨rfl, _, World.drewN_drewN _ _ _⟩ | exact ⟨rfl, _, Eq.trans (World.drewN_drewN _ _ _) (congrArg (World.drewN _) (Nat.add_assoc _ _ _))⟩)))
         go_wp2
         go_roundg t2.length
         case measure => simp
         case rel => exact ⟨pre2 ++ [(.slice Al2 xl2.length cl2, xl2)], (.slice Ac2 xc2.length cc2, xc2), t2, cs2.set i (.slice Ac2 xc2.length cc2), i + 1, d + 1, by simp [wrap64], by simp [wrap64], rfl, ⟨by rw [List.length_append, List.length_singleton]; exact HPD2.out⟩, ⟨HCI.out.keep HNE.out⟩, ⟨by have := blk_set (blk_drewN HBK.out nq) i (.slice Ac2 xc2.length cc2); simpa using this⟩, ⟨(HF.out.trans (Fr.of_below (zd (Below.refl _ _) nq))).trans (Fr.set (S := fun k => k = g) rfl _ _)⟩⟩
   · have hbq := zk (show decide (xc = xl) = false from decide_eq_false heq)
     have HNE := zk heq
     have hT : ((pre.length : Int) + 1).toNat = pre.length + 1 := by omega
     clear heq
     go_wp2
     go_quiet ((go_at_call 177; (with_reducible refine (cmpEq_calls Ac cc xc Al cl xl false _ h7c ?side1 hcc ?side3 hcl hbq.out).mono ?_); (case side1 => repeat (first | exact HRC.out | (with_reducible refine zu ?_ _) | (with_reducible refine zw ?_))); (case side3 => repeat (first | exact HRL.out | (with_reducible refine zu ?_ _) | (with_reducible refine zw ?_))); rintro e w' ⟨rfl, ⟨nd, rfl⟩⟩; (try first | exact ⟨rfl, _, World.drewN_drewN _ _ _⟩ | exact ⟨rfl, _, Eq.trans (World.drewN_drewN _ _ _) (congrArg (World.drewN _) (Nat.add_assoc _ _ _))⟩)))
     go_wp2
     go_roundg t.length
     case measure => simp
     case rel => exact ⟨pre ++ [(.slice Al xl.length cl, xl)], (.slice Ac xc.length cc, xc), t, by simp [wrap64], rfl, ⟨HCI.out.step HNE.out⟩, ⟨blk_drewN HBK.out _⟩, ⟨zd HB.out _⟩⟩
theorem cmpInt_f (a b : Int) : cmp_Compare_int.f a b = some (if a < b then -1 else if b < a then 1 else 0) := by
 unfold cmp_Compare_int.f cmp_isNaN_int.f
 simp only [Option.bind_some, bne_self_eq_false, Bool.false_eq_true, if_false]
 by_cases h1 : a < b
 · rw [if_pos h1, if_pos h1]
 · rw [if_neg h1, if_neg h1]
   by_cases h2 : a > b
   · rw [if_pos h2, if_pos h2]
   · rw [if_neg h2, if_neg h2]
theorem cmp_l (a b : List Int) (ha : a.length ≤ 1000) (hab : a.length = b.length) : ∀ (s t pre q : List Int), a = pre ++ s → b = q ++ t → pre.length = q.length → Ev (fun k => slices_Compare_int_int.l0 k a b a (a.length : Int) (pre.length : Int)) (lexC s t) := by
 intro s
 induction s with
 | nil =>
  intro t pre q e e' h1
  have h := len_end e
  obtain rfl : t = [] := by
   have : b.length = q.length + t.length := by rw [e']; simp
   have : t.length = 0 := by omega
   exact List.length_eq_zero_iff.1 this
  refine ev_succ ?_
  simp only [slices_Compare_int_int.l0.eq_2]
  exact ev_neg (by omega) (ev_neg (by omega) (ev_now rfl))
 | cons c s ih =>
  intro t pre q e e' h1
  have h := len_mid e
  cases t with
  | nil =>
   have := len_end (xs := b) (pre := q) (by simpa using e')
   omega
  | cons d t =>
  have h' := len_mid e'
  refine ev_succ ?_
  have r1 := rd_mid' e
  have r2 := rd_mid' e'
  rw [← h1] at r2
  simp only [slices_Compare_int_int.l0.eq_2, r1, r2, cmpInt_f]
  refine ev_pos (by omega) (ev_pos (by omega) (ev_pos (by omega) (ev_neg (by omega) (ev_pos (by omega) (ev_let ?_)))))
  simp only [lexC]
  by_cases hc : c < d
  · rw [if_pos hc, if_pos hc]
    exact ev_neg (by decide) (ev_now rfl)
  · rw [if_neg hc, if_neg hc]
    by_cases hd : d < c
    · rw [if_pos hd, if_pos hd]
      exact ev_neg (by decide) (ev_now rfl)
    · rw [if_neg hd, if_neg hd]
      refine ev_pos rfl ?_
      rw [wrap_snoc (pre := pre) (c := c) (by omega)]
      exact ih t (pre ++ [c]) (q ++ [d]) (snoc_mid e) (snoc_mid e') (by simp [h1])
theorem cmp_ev (a b : List Int) (ha : a.length ≤ 1000) (hab : a.length = b.length) : Ev (fun k => impl_compareOrders.f k a b) (lexC a b) := by
 unfold impl_compareOrders.f slices_Compare_int_int.f
 exact ev_pos (by omega) (ev_bind (cmp_l a b ha hab a b [] [] rfl rfl rfl) (ev_now rfl))
theorem cmp_calls (A0 : Option Addr) (c0 : Nat) (l0 : List Int) (A1 : Option Addr) (c1 : Nat) (l1 : List Int) (w : World) (h0 : l0.length ≤ 1000) (h01 : l0.length = l1.length) (hr0 : Kd.C (Kd.int .i64) w A0 l0.length l0) (hc0 : l0.length ≤ c0) (hr1 : Kd.C (Kd.int .i64) w A1 l1.length l1) (hc1 : l1.length ≤ c1) :
 Calls Try.prog 250 #[.slice A0 l0.length c0, .slice A1 l1.length c1] w fun e w' => e = .returned (.int .i64 (lexC l0 l1)) ∧ ∃ n, w' = w.drewN n := by
 obtain ⟨k, hk⟩ := cmp_ev l0 l1 h0 h01
 refine (impl_compareOrders.calls k A0 c0 l0 A1 c1 l1 _ w hr0 hc0 hr1 hc1 (hk k (Nat.le_refl _))).mono ?_
 rintro e w' ⟨rfl, ⟨n, rfl⟩⟩
 exact ⟨rfl, n, rfl⟩
theorem compactFunc_few (v : Value) (A : Option Addr) (n cap : Nat) (hv : v = .slice A n cap) (hn : n < 2) (w : World) :
 Calls Try.prog 251 #[v, .func (.func 177) #[] #[]] w fun e w' => e = .returned v ∧ w' = w := by
 subst hv
 have hl2 : (n : Int) < 2 := by omega
 have hl2b : decide ((n : Int) < 2) = true := decide_eq_true hl2
 go_enter Try.func251, Try.ntmps251
 go_wp2
 go_ret
 exact ⟨rfl, rfl⟩
def tidyG (rows : List (List Int)) : List (List Int) := compactG (sortG rows)
set_option maxHeartbeats 8000000 in
set_option maxRecDepth 100000 in
theorem tidied_calls (xs : List (List Int)) (w : World) (base g cap L : Nat) (ok : Nat → Prop) (hS : Kd.S (Kd.slice 3 (Kd.int .i64)) 22 w base ok (.slice (some ⟨g, 0, none⟩) xs.length cap) xs) (hlen : xs.length ≤ 4611686018427387903) (hL : L ≤ 1000) (hx : ∀ x ∈ xs, x.length = L) (h1 : 0 < xs.length) :
 Calls Try.prog 163 #[.slice (some ⟨g, 0, none⟩) xs.length cap] w fun e w' => e = .returned (.slice (some ⟨g, 0, none⟩) (tidyG xs).length cap) ∧ Kd.S (Kd.slice 3 (Kd.int .i64)) 22 w' base (fun _ => True) (.slice (some ⟨g, 0, none⟩) (tidyG xs).length cap) (tidyG xs) ∧ Fr (fun k => k = g) w w' := by
 have hp := sortG_perm xs
 have hsl : (sortG xs).length = xs.length := hp.length_eq
 have HSORT := zk (sort_rows (P := Try.prog) Go.Proofs.Try.laysSlF6_f249 250 L 3 22 w base g xs.length cap ok xs hS h1 hx (by omega) (fun args w => enters_ Try.func250 (by kernel_rfl) rfl args w)
  (fun W' A1 c1 l1 A2 c2 l2 hf hC1 hc1 hC2 hc2 hl1 hl2 => cmp_calls A1 c1 l1 A2 c2 l2 W' (by omega) (by omega) hC1 hc1 hC2 hc2))
 have HSL := zk hsl
 have HX := zk (show ∀ x ∈ sortG xs, x.length ≤ 1000 from fun x hm => by have := hx x (hp.subset hm); omega)
 have HLEN := zk hlen
 by_cases h2 : 2 ≤ xs.length
 · have HH2 := zk h2
   clear hS hp hsl hx h1 hlen h2
   go_enter Try.func163, Try.ntmps163
   go_wp2_with (fail)
   refine HSORT.out.mono ?_
   rintro e_ w2 ⟨rfl, hS2, hF2⟩
   rw [← HSL.out] at hS2 ⊢
   have HS2 := zk hS2
   have HF2 := zk hF2
   clear hS2 hF2
   go_wp2_with (fail)
   refine (compactFunc_eq (sortG xs) w2 base g cap _ HS2.out (by rw [HSL.out]; exact HLEN.out) HX.out (by rw [HSL.out]; exact HH2.out)).mono ?_
   rintro e_ w3 ⟨rfl, hS3, hF3⟩
   have HX3 := zk (And.intro hS3 hF3)
   clear hS3 hF3
   go_wp2_with (fail)
   go_ret
   exact ⟨rfl, HX3.out.1, HF2.out.trans HX3.out.2⟩
 · have hone : xs.length = 1 := by omega
   have HTY := zk (show tidyG xs = sortG xs from by
    unfold tidyG
    obtain ⟨a, ha⟩ := List.length_eq_one_iff.1 (hsl.trans hone)
    rw [ha]; rfl)
   have HONE := zk hone
   clear hS hp hsl hx h1 hlen h2 hone
   go_enter Try.func163, Try.ntmps163
   go_wp2_with (fail)
   refine HSORT.out.mono ?_
   rintro e_ w2 ⟨rfl, hS2, hF2⟩
   have HS2 := zk hS2
   have HF2 := zk hF2
   clear hS2 hF2
   go_wp2_with (fail)
   refine (compactFunc_few _ (some ⟨g, 0, none⟩) xs.length cap rfl (by rw [HONE.out]; decide) w2).mono ?_
   rintro e_ w3 ⟨rfl, rfl⟩
   go_wp2_with (fail)
   go_ret
   exact ⟨by rw [HTY.out, HSL.out]; rfl, by rw [HTY.out, HSL.out]; exact HS2.out, HF2.out⟩
set_option maxHeartbeats 8000000 in
set_option maxRecDepth 100000 in
theorem tidied_none (A : Option Addr) (c : Nat) (w : World) :
 Calls Try.prog 163 #[.slice A 0 c] w fun e w' => e = .returned (.slice A 0 c) ∧ w' = w := by
 have HSORT := zk (show Calls Try.prog 249 #[.slice A 0 c, .func (.func 250) #[] #[]] w fun e w' => e = .returned (.tuple #[]) ∧ w' = w from AnyF.slices_SortFunc_none (P := Try.prog) (ρ := Go.Proofs.Try.laysSlF6_f249_ren) { Go.Proofs.Try.laysSlF6_f249 with } A c _ w)
 go_enter Try.func163, Try.ntmps163
 go_wp2_with (fail)
 refine HSORT.out.mono ?_
 rintro e_ w2 ⟨rfl, rfl⟩
 go_wp2_with (fail)
 refine (compactFunc_few _ A 0 c rfl (by decide) _).mono ?_
 rintro e_ w3 ⟨rfl, rfl⟩
 go_wp2_with (fail)
 go_ret
 exact ⟨rfl, rfl⟩
def impl_tidied.f (l0 : List (List Int)) : Option (List (List Int)) := if l0.length ≤ 1000000 ∧ (∀ x ∈ l0, x.length ≤ 1000) ∧ (∀ x ∈ l0, ∀ y ∈ l0, x.length = y.length) then some (tidyG l0) else none
theorem impl_tidied.own (l0 r : List (List Int)) (w0 w : World) (A : Option Addr) (c : Nat) (ok : Nat → Prop) (hS : Kd.S (Kd.slice 3 (Kd.int .i64)) 22 w w0.heap.size ok (.slice A l0.length c) l0) (hB : Below w0.heap.size w0 w) (h : impl_tidied.f l0 = some r) :
 Calls Try.prog 163 #[.slice A l0.length c] w fun e w' => ∃ v0_ : Value, e = .returned v0_ ∧ Kd.S (Kd.slice 3 (Kd.int .i64)) 22 w' w0.heap.size (fun _ => True) v0_ r ∧ Below w0.heap.size w0 w' := by
 unfold impl_tidied.f at h
 by_cases hq : l0.length ≤ 1000000 ∧ (∀ x ∈ l0, x.length ≤ 1000) ∧ (∀ x ∈ l0, ∀ y ∈ l0, x.length = y.length)
 · rw [if_pos hq] at h
   obtain rfl := Option.some.inj h
   cases l0 with
   | nil =>
    refine (tidied_none A c w).mono ?_
    rintro e w' ⟨rfl, rfl⟩
    have e0 : tidyG ([] : List (List Int)) = [] := by unfold tidyG sortG; rw [List.mergeSort_nil]; rfl
    rw [e0]
    exact ⟨_, rfl, Kd.S_mono hS (fun _ _ => trivial), hB⟩
   | cons x s =>
    obtain ⟨g, cap, eg, gb, gl, _⟩ := Kd.S_form hS (by simp)
    cases eg
    refine (tidied_calls (x :: s) w w0.heap.size g c x.length ok hS (by omega) (hq.2.1 x (by simp)) (fun y hy => hq.2.2 y hy x (by simp)) (by simp)).mono ?_
    rintro e w' ⟨rfl, h1, h2⟩
    exact ⟨_, rfl, h1, hB.trans (h2.below hB.size (fun k hk => by omega))⟩
 · rw [if_neg hq] at h; cases h
end

/-! ### slices_Clone_int_int: function 248 -/
def slices_Clone_int_int.f (l0 : List Int) : Option (List Int) := if l0.length < 17592186044416 then (some l0) else (none)
set_option maxHeartbeats 8000000 in
set_option maxRecDepth 100000 in
theorem slices_Clone_int_int.calls (A0 : Option Addr) (c0 : Nat) (l0 : List Int) (r : List Int) (w : World) (hr0 : Kd.C (Kd.int .i64) w A0 l0.length l0) (hc0 : l0.length ≤ c0) (h : slices_Clone_int_int.f l0 = some r) :
 Calls Try.prog 248 #[.slice A0 l0.length c0] w fun e w' => ∃ v0_ : Value, e = .returned (v0_) ∧ Kd.R (Kd.int .i64) 3 w' w.heap.size (fun _ => True) v0_ r ∧ Below w.heap.size w w' := by
 have hnil := fun (w : World) (a : Option Addr) (n c : Nat) => Lib.run_eql_slice_nil (P := Try.prog) w 22 3 a n c 0 0 Try.underlying22
 have HR0 := zk hr0
 have HC0 := zk hc0
 clear hr0 hc0
 have HB := zk (Below.refl w.heap.size w)
 unfold slices_Clone_int_int.f at h
 by_cases c2 : l0.length < 17592186044416
 rotate_left
 · rw [if_neg c2] at h
   exact absurd h (by simp)
 rw [if_pos c2] at h
 have LMc2 := zk c2
 clear c2
 obtain rfl := Option.some.inj h
 clear h
 cases A0 with
 | none =>
  have hl : l0 = [] := by
   have h1 := HR0.out.1
   have h2 := HR0.out.2.2
   cases l0 with
   | nil => rfl
   | cons x l =>
    exfalso
    obtain ⟨ad, e, _⟩ := Kd.at_int HR0.out 0 (by omega) (by simp only [List.length_cons]; omega)
    cases e
  subst hl
  go_enter Try.func248, Try.ntmps248
  go_wp2
  go_ret
  exact ⟨_, rfl, Kd.R_nil _ _ _ _ _, HB.out⟩
 | some a =>
  obtain ⟨y115, hy115⟩ : ∃ y_ : List Int, y_ = (([] : List Int)) := ⟨_, rfl⟩
  have Ny115 := zk hy115
  clear hy115
  obtain ⟨y118, hy118⟩ : ∃ y_ : List Int, y_ = (y115 ++ l0) := ⟨_, rfl⟩
  have Ny118 := zk hy118
  clear hy118
  have E118 := zk (show y118 = l0 from by rw [Ny118.out, Ny115.out]; rfl)
  have L115 := zk (show y115.length = 0 from by rw [Ny115.out]; rfl)
  go_enter Try.func248, Try.ntmps248
  go_wp2_with (first | ((with_reducible refine gate_dst (N := 5) rfl ?_); refine zL 5 3 [] (Below.refl _ _) (Nat.le_refl _) ?_; intro v116 w3 ho4 hb hg_ hnew_; clear hg_ hnew_; (first | rw [← Ny115.out] at ho4 | (simp only [Int.reduceToNat] at ho4; rw [← Ny115.out] at ho4)); have HO117 := zk (Kd.R_lower ho4 (below_size (zB HB))); replace HB := zF HB hb; clear hb ho4) | ((with_reducible refine gate_builtin (b := .append) (xs := #[.tmp 5, .tmp 6]) rfl ?_); at_builtin; refine Kd.R_append_rows (Kd.int .i64) (w0 := w) w.heap.size rfl (.tmp 5) (.tmp 6) 22 3 (.int .i64 0) 8 rfl Try.underlying22 info3 rfl (by decide) (by omega) v116 y115 l0 _ _ _ (fun _ => True) (fun _ => False) rfl rfl ?aO ?aR (fun _ _ h => h) (fun _ h => h.elim) ?aF ?aB ?aS ?aL ?_; (case aR => exact zC (Kd.C_below HR0.out HB.out)); (case aB => exact (zB HB)); (case aF => exact (fun _ _ => trivial)); (case aO => exact (zR HO117)); (case aS => exact (below_size (zB HB))); (case aL => have := LMc2.out; have := L115.out; omega); intro v119 w5 ho hb hg hat; rw [← Ny118.out] at ho; have HO120 := zk (ho); replace HB := zk (hb); clear HO117; clear ho hb hg hat))
  go_ret
  exact ⟨_, by first | rfl | (simp [errW_none, errW_some] <;> rfl) | (simp [*, errW_none, errW_some] <;> rfl), by (with_reducible repeat (first | apply zs | apply zr | apply zt)); rw [← E118.out]; exact HO120.out, by repeat (first | exact HB.out | apply za | apply zd | apply ze)⟩

/-! ### shared: atshape -/
section
open Go.Proofs.Ytlkddcabjcejdaa.Base
theorem impl_shape_in (l : List Int) (hl : l.length ≤ 7) (x : Int) (i : Int) (out R : List Int) (ho : out.length ≤ 7) : ∀ (suf pre : List Int) (a : Int), l = pre ++ suf → 0 ≤ a → a + suf.length ≤ 100 → Ev (fun k => impl_shape.l0 k l (out ++ [a + lessN x suf]) l (l.length : Int) (wrap64 (i + 1))) R → Ev (fun k => impl_shape.l1 k l out x a l (l.length : Int) i l (l.length : Int) (pre.length : Int)) R := by
 intro suf
 induction suf with
 | nil =>
  intro pre a e h0 h1 hR
  have h := len_end e
  refine ev_succ ?_
  simp only [impl_shape.l1.eq_2]
  refine ev_neg (by omega) (ev_pos (by omega) ?_)
  simpa [lessN] using hR
 | cons c suf ih =>
  intro pre a e h0 h1 hR
  have h := len_mid e
  simp only [List.length_cons] at h1
  refine ev_succ ?_
  simp only [impl_shape.l1.eq_2, rd_mid' e]
  rw [wrap_snoc (pre := pre) (c := c) (by omega)]
  refine ev_pos (by omega) (ev_pos (by omega) (ev_pos (by omega) ?_))
  rw [lessN_cons] at hR
  by_cases hc : c < x
  · refine ev_pos hc ?_
    rw [wrap_of (x := a + 1) (by omega) (by omega)]
    refine ih _ _ (snoc_mid e) (by omega) (by omega) ?_
    rw [if_pos hc] at hR
    rwa [show a + 1 + (lessN x suf : Int) = a + ((1 + lessN x suf : Nat) : Int) by omega]
  · refine ev_neg hc (ih _ _ (snoc_mid e) (by omega) (by omega) ?_)
    rw [if_neg hc] at hR
    simpa using hR
theorem impl_shape_l (l : List Int) (hl : l.length ≤ 7) : ∀ (suf pre out : List Int), l = pre ++ suf → out.length = pre.length → Ev (fun k => impl_shape.l0 k l out l (l.length : Int) (pre.length : Int)) (out ++ suf.map (fun x => ((1 + lessN x l : Nat) : Int))) := by
 intro suf
 induction suf with
 | nil =>
  intro pre out e ho
  have h := len_end e
  refine ev_succ ?_
  simp only [impl_shape.l0.eq_2]
  exact ev_neg (by omega) (ev_now (by simp))
 | cons c suf ih =>
  intro pre out e ho
  have h := len_mid e
  refine ev_succ ?_
  simp only [impl_shape.l0.eq_2, rd_mid' e]
  refine ev_pos (by omega) (ev_pos (by omega) (ev_pos (by omega) (impl_shape_in l hl c _ out _ (by omega) l [] 1 rfl (by omega) (by omega) ?_)))
  rw [wrap_snoc (pre := pre) (c := c) (by omega)]
  refine ev_eq (ih _ _ (snoc_mid e) ?_) ?_
  · simp [ho]
  · simp
theorem impl_shape_ev (l : List Int) (hl : l.length ≤ 7) : Ev (fun k => impl_shape.f k l) (shapeL l) := by
 unfold impl_shape.f shapeL
 exact impl_shape_l l hl l [] [] rfl rfl

theorem impl_at_l (l xs : List Int) (hl : xs.length ≤ 7) (hq : ∀ x ∈ xs, 0 ≤ x ∧ x < (l.length : Int)) : ∀ (suf pre out : List Int), xs = pre ++ suf → out.length = pre.length → Ev (fun k => impl_at.l0 k l out xs (xs.length : Int) (pre.length : Int)) (out ++ atG l suf) := by
 intro suf
 induction suf with
 | nil =>
  intro pre out e ho
  have h := len_end e
  refine ev_succ ?_
  simp only [impl_at.l0.eq_2]
  exact ev_neg (by omega) (ev_now (by simp [atG]))
 | cons c suf ih =>
  intro pre out e ho
  have h := len_mid e
  have hc := hq c (by rw [e]; simp)
  refine ev_succ ?_
  simp only [impl_at.l0.eq_2, rd_mid' e]
  rw [wrap_snoc (pre := pre) (c := c) (by omega)]
  refine ev_pos (by omega) (ev_pos (by omega) (ev_pos (by omega) (ev_pos (by omega) (ev_pos (by omega) (ev_pos (by omega) (ev_eq (ih _ _ (snoc_mid e) (by simp [ho])) ?_))))))
  simp [atG]
theorem impl_at_ev (l xs : List Int) (hl : xs.length ≤ 7) (hq : ∀ x ∈ xs, 0 ≤ x ∧ x < (l.length : Int)) : Ev (fun k => impl_at.f k l xs) (atG l xs) := by
 unfold impl_at.f
 exact impl_at_l l xs hl hq xs [] [] rfl rfl
theorem equal_l (a b : List Int) (hl : a.length * 8 ≤ 140737488351232) : ∀ (s t pre q : List Int), a = pre ++ s → b = q ++ t → pre.length = q.length → s.length = t.length → Ev (fun k => slices_Equal_int_int.l0 k a b (a.length : Int) (pre.length : Int)) (decide (s = t)) := by
 intro s
 induction s with
 | nil =>
  intro t pre q e e' h1 h2
  have h := len_end e
  obtain rfl : t = [] := by cases t with
   | nil => rfl
   | cons _ _ => simp at h2
  refine ev_succ ?_
  simp only [slices_Equal_int_int.l0.eq_2]
  exact ev_neg (by omega) (ev_now (by simp))
 | cons c s ih =>
  intro t pre q e e' h1 h2
  cases t with
  | nil => simp at h2
  | cons d t =>
  have h := len_mid e
  have h' := len_mid e'
  refine ev_succ ?_
  have r1 := rd_mid' e
  have r2 := rd_mid' e'
  rw [← h1] at r2
  simp only [slices_Equal_int_int.l0.eq_2, r1, r2]
  refine ev_pos (by omega) (ev_pos (by omega) (ev_pos (by omega) (ev_pos (by omega) ?_)))
  by_cases hc : c = d
  · refine ev_pos hc ?_
    rw [wrap_snoc (pre := pre) (c := c) (by omega)]
    refine ev_eq (ih t (pre ++ [c]) (q ++ [d]) (snoc_mid e) (snoc_mid e') (by simp [h1]) (by simpa using h2)) ?_
    simp [hc]
  · exact ev_neg hc (ev_now (by simp [hc]))
theorem equal_ev (a b : List Int) (hl : a.length * 8 ≤ 140737488351232) : Ev (fun k => slices_Equal_int_int.f k a b) (decide (a = b)) := by
 unfold slices_Equal_int_int.f
 by_cases h : a.length = b.length
 · exact ev_pos (by omega) (equal_l a b hl a b [] [] rfl rfl rfl h)
 · refine ev_neg (by omega) (ev_now ?_)
   symm
   exact decide_eq_false (fun e => h (by rw [e]))
theorem cp_res (l p : List Int) (hp : p.length ≤ 7) : ∀ xs : List Int, xs.length = p.length → (∀ x ∈ xs, 0 ≤ x ∧ x < (l.length : Int)) → ∃ k1 k2 k3, impl_at.f k1 l xs = some (atG l xs) ∧ impl_shape.f k2 (atG l xs) = some (shapeL (atG l xs)) ∧ slices_Equal_int_int.f k3 (shapeL (atG l xs)) p = some (decide (shapeL (atG l xs) = p)) := by
 intro xs hx hq
 have hal : (atG l xs).length ≤ 7 := by simp [atG]; omega
 obtain ⟨k1, h1⟩ := impl_at_ev l xs (by omega) hq
 obtain ⟨k2, h2⟩ := impl_shape_ev (atG l xs) hal
 obtain ⟨k3, h3⟩ := equal_ev (shapeL (atG l xs)) p (by simp [shapeL]; omega)
 exact ⟨k1, k2, k3, h1 k1 (Nat.le_refl _), h2 k2 (Nat.le_refl _), h3 k3 (Nat.le_refl _)⟩
end

/-! ### shared: orderimpl -/
section
open Go.Proofs.Ytlkddcabjcejdaa.Base
theorem idx_l (l : List Int) (x : Int) (hl : l.length ≤ 140737488351232) : ∀ (suf pre : List Int), l = pre ++ suf → Ev (fun k => slices_Index_int_int.l0 k l x (l.length : Int) (pre.length : Int)) (if x ∈ suf then ((pre.length + suf.idxOf x : Nat) : Int) else -1) := by
 intro suf
 induction suf with
 | nil =>
  intro pre e
  have h := len_end e
  refine ev_succ ?_
  simp only [slices_Index_int_int.l0.eq_2]
  refine ev_neg (by omega) ?_
  exact ev_now (by simp)
 | cons c suf ih =>
  intro pre e
  have h := len_mid e
  refine ev_succ ?_
  simp only [slices_Index_int_int.l0.eq_2, rd_mid' e]
  refine ev_pos (by omega) (ev_pos (by omega) (ev_pos (by omega) ?_))
  by_cases hc : x = c
  · exact ev_pos hc (ev_now (by simp [hc]))
  · refine ev_neg hc ?_
    rw [wrap_snoc (pre := pre) (c := c) (by omega)]
    refine ev_eq (ih _ (snoc_mid e)) ?_
    have hc' : ¬ c = x := fun h => hc h.symm
    have hb : (c == x) = false := by simpa using hc'
    simp only [List.mem_cons, hc, false_or, List.idxOf_cons, hb, cond_false]
    by_cases hm : x ∈ suf
    · rw [if_pos hm, if_pos hm]; simp; omega
    · rw [if_neg hm, if_neg hm]
theorem idx_ev (l : List Int) (x : Int) (hl : l.length ≤ 140737488351232) : Ev (fun k => slices_Index_int_int.f k l x) (if x ∈ l then ((l.idxOf x : Nat) : Int) else -1) := by
 unfold slices_Index_int_int.f
 simpa using idx_l l x hl l [] rfl
theorem contains_ev (l : List Int) (x : Int) (hl : l.length ≤ 140737488351232) : Ev (fun k => slices_Contains_int_int.f k l x) (decide (x ∈ l)) := by
 unfold slices_Contains_int_int.f
 refine ev_bind (idx_ev l x hl) (ev_now ?_)
 by_cases h : x ∈ l
 · simp [h]
 · simp [h]
theorem impl_order_l (l : List Int) (hl : l.length ≤ 140737488351232) : ∀ (suf pre : List Int), l = pre ++ suf → Ev (fun k => impl_isOrder.l0 k l l (l.length : Int) (pre.length : Int)) (ordGo (l.length : Int) pre suf) := by
 intro suf
 induction suf with
 | nil =>
  intro pre e
  have h := len_end e
  refine ev_succ ?_
  simp only [impl_isOrder.l0.eq_2]
  refine ev_neg (by omega) ?_
  exact ev_now rfl
 | cons c suf ih =>
  intro pre e
  have h := len_mid e
  refine ev_succ ?_
  simp only [impl_isOrder.l0.eq_2, rd_mid' e, take_mid e]
  refine ev_pos (by omega) (ev_pos (by omega) (ev_pos (by omega) ?_))
  by_cases h1 : c < 1
  · exact ev_pos h1 (ev_now (by simp only [ordGo]; rw [if_neg (fun h => by omega)]))
  refine ev_neg h1 ?_
  by_cases h2 : c > (l.length : Int)
  · exact ev_pos h2 (ev_now (by simp only [ordGo]; rw [if_neg (fun h => by omega)]))
  refine ev_neg h2 (ev_pos (by omega) (ev_bind (contains_ev pre c (by omega)) ?_))
  by_cases hc : c ∈ pre
  · exact ev_pos (by simp [hc]) (ev_now (by simp [ordGo, hc]))
  · refine ev_neg (by simp [hc]) ?_
    rw [wrap_snoc (pre := pre) (c := c) (by omega)]
    refine ev_eq (ih _ (snoc_mid e)) ?_
    simp only [ordGo]
    rw [if_pos ⟨by omega, by omega, hc⟩]
theorem impl_order_ev (l : List Int) (hl : l.length ≤ 140737488351232) : Ev (fun k => impl_isOrder.f k l) (isOrd l) := by
 have key : ∀ b : Bool, Ev (fun k => impl_isOrder.j0 k l b) (if b = true then false else ordGo (l.length : Int) [] l) := by
  intro b
  refine ev_succ ?_
  simp only [impl_isOrder.j0.eq_2]
  cases b with
  | true => exact ev_pos rfl (ev_now rfl)
  | false => exact ev_neg (by simp) (impl_order_l l hl l [] rfl)
 unfold impl_isOrder.f isOrd
 by_cases h1 : (l.length : Int) < 1
 · refine ev_pos h1 (ev_eq (key true) ?_)
   rw [if_pos rfl, if_neg (fun h => by omega)]
 · refine ev_neg h1 (ev_eq (key _) ?_)
   by_cases h2 : (l.length : Int) > 7
   · rw [if_neg (c := 1 ≤ l.length ∧ l.length ≤ 7) (fun h => by omega), if_pos (decide_eq_true h2)]
   · rw [if_pos (c := 1 ≤ l.length ∧ l.length ≤ 7) ⟨by omega, by omega⟩, if_neg (by simp; omega)]
end

end Go.Proofs.Ytlkddcabjcejdaa.MFnContained
