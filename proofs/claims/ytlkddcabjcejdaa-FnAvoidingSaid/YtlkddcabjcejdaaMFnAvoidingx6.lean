/- Functions that FnAvoiding comes to, a walk for each: by wip/tools/mk.py and post.py. No condition. -/
import Derived.Test.YtlkddcabjcejdaaMFnAvoidingx0
import Derived.Test.YtlkddcabjcejdaaMFnAvoidingx3
import Derived.Test.YtlkddcabjcejdaaMFnAvoidingx4
import Derived.Test.YtlkddcabjcejdaaMFnAvoidingx5
namespace Go.Proofs.Ytlkddcabjcejdaa.MFnAvoiding
open Go.RowKit Go.Proofs.YtlkddcabjcejdaaW.PrintWords Go.Proofs.YtlkddcabjcejdaaW.PrintLast Go.Proofs.YtlkddcabjcejdaaW.PrintMore
attribute [local go_sem] max2_int min2_int max_two min_two max_three min_three max_four min_four
set_option linter.unusedVariables false
set_option linter.unusedSimpArgs false

/-! ### impl_avoiding: function 223 -/
section
open Go.Proofs.Ytlkddcabjcejdaa.Base
set_option maxHeartbeats 8000000 in
set_option maxRecDepth 100000 in
theorem indexFunc_av2 (c1_ : Value) (bad : List Int → Bool) (rows : List (List Int)) (A0 : Option Addr) (c0 : Nat) (w : World) (hr0 : Kd.C (Kd.slice 3 (Kd.int .i64)) w A0 rows.length rows) (hc0 : rows.length ≤ c0) (hlen : rows.length ≤ 4611686018427387904)
 (hcb : ∀ W A c xs, Below w.heap.size w W → xs ∈ rows → Kd.C (Kd.int .i64) W A xs.length xs → xs.length ≤ c → Calls Try.prog 262 #[.slice A xs.length c, c1_] W fun e w' => e = .returned (.bool (bad xs)) ∧ Below W.heap.size W w') :
 Calls Try.prog 253 #[.slice A0 rows.length c0, .func (.func 262) #[] #[c1_]] w fun e w' => e = .returned (.int .i64 (idxGo bad rows 0)) ∧ Below w.heap.size w w' := by
 have HR0 := zk hr0
 have HCB := zk hcb
 obtain ⟨R, hR⟩ : ∃ R, idxGo bad rows 0 = R := ⟨_, rfl⟩
 rw [hR]
 have HP := zk hR
 clear hR hr0 hcb
 go_enter Try.func253, Try.ntmps253
 go_wp2
 go_loopg [8] rows.length (fun kq v8 wr => ∃ (pre suf : List (List Int)), v8 = .int .i64 (pre.length : Int) ∧ kq = suf.length ∧ Aside0 (rows = pre ++ suf) ∧ Aside0 (idxGo bad suf (pre.length : Int) = R) ∧ Aside0 (Below w.heap.size w wr))
 case atStart => exact ⟨[], rows, rfl, rfl, ⟨rfl⟩, HP, ⟨Below.refl _ _⟩⟩
 case round =>
  clear HP
  obtain ⟨pre, suf, rfl, rfl, HL, HP, HB⟩ := hrel
  cases suf with
  | nil =>
   have hl : rows.length = pre.length := by rw [HL.out]; simp
   have hg : ¬ ((pre.length : Int) < (rows.length : Int)) := by omega
   have hgb : decide ((pre.length : Int) < (rows.length : Int)) = false := decide_eq_false hg
   have e := HP.out
   simp only [idxGo] at e
   subst e
   clear hl
   go_wp2
   go_ret
   exact ⟨rfl, HB.out⟩
  | cons x t =>
   have hl : rows.length = pre.length + (t.length + 1) := by rw [HL.out]; simp
   have hg : (pre.length : Int) < (rows.length : Int) := by omega
   have hgb : decide ((pre.length : Int) < (rows.length : Int)) = true := decide_eq_true hg
   have hrd : rows.getD pre.length [] = x := by rw [HL.out]; simp
   obtain ⟨ad, A1, c1, e1, hx, hl1, hi1⟩ := row_at HR0.out (pre.length : Int) (by omega) hg
   cases e1
   rw [show ((pre.length : Int)).toNat = pre.length by omega, hrd] at hx hl1 hi1
   replace hx := pw_cell_below_ HB.out hx
   have HI1 := zk (Kd.C_below hi1 HB.out)
   have HL1 := zk hl1
   have HM := zk (show x ∈ rows by rw [HL.out]; simp)
   have hb1 : (pre.length : Int) ≤ 4611686018427387904 := by omega
   clear hl hrd hi1 hl1
   cases hbx : bad x with
   | true =>
    have H := HCB.out wr A1 c1 x HB.out HM.out HI1.out HL1.out
    rw [hbx] at H
    have HH := zk H
    have e := HP.out
    simp only [idxGo, hbx, if_true] at e
    subst e
    clear H hbx
    go_wp2_with (go_at_call 262; refine HH.out.mono ?_; rintro e_ w2 ⟨rfl, hb2⟩; have HX := zk hb2; clear hb2)
    go_ret
    exact ⟨rfl, below_step HB.out HX.out⟩
   | false =>
    have H := HCB.out wr A1 c1 x HB.out HM.out HI1.out HL1.out
    rw [hbx] at H
    have HH := zk H
    have e := HP.out
    simp only [idxGo, hbx, Bool.false_eq_true, if_false] at e
    have HP2 := zk e
    clear H hbx e
    go_wp2_with (go_at_call 262; refine HH.out.mono ?_; rintro e_ w2 ⟨rfl, hb2⟩; have HX := zk hb2; clear hb2)
    go_roundg t.length
    case measure => simp
    case rel => exact ⟨pre ++ [x], t, by simp, rfl, ⟨by rw [HL.out]; simp⟩, ⟨by have := HP2.out; simpa using this⟩, ⟨below_step HB.out HX.out⟩⟩
set_option maxHeartbeats 8000000 in
set_option maxRecDepth 100000 in
theorem containsFunc_av2 (c1_ : Value) (bad : List Int → Bool) (rows : List (List Int)) (A0 : Option Addr) (c0 : Nat) (w : World) (hr0 : Kd.C (Kd.slice 3 (Kd.int .i64)) w A0 rows.length rows) (hc0 : rows.length ≤ c0) (hlen : rows.length ≤ 4611686018427387904)
 (hcb : ∀ W A c xs, Below w.heap.size w W → xs ∈ rows → Kd.C (Kd.int .i64) W A xs.length xs → xs.length ≤ c → Calls Try.prog 262 #[.slice A xs.length c, c1_] W fun e w' => e = .returned (.bool (bad xs)) ∧ Below W.heap.size W w') :
 Calls Try.prog 260 #[.slice A0 rows.length c0, .func (.func 262) #[] #[c1_]] w fun e w' => e = .returned (.bool (rows.any bad)) ∧ Below w.heap.size w w' := by
 have H := indexFunc_av2 c1_ bad rows A0 c0 w hr0 hc0 hlen hcb
 have hi := idxGo_any bad rows 0 (by omega)
 obtain ⟨R, hR⟩ : ∃ R, idxGo bad rows 0 = R := ⟨_, rfl⟩
 rw [hR] at H hi
 rw [← hi]
 have HH := zk H
 clear H hi hR hcb hr0
 cases hd : decide (0 ≤ R) with
 | true =>
  have h0 : 0 ≤ R := zo hd
  clear hd
  go_enter Try.func260, Try.ntmps260
  go_wp2_with (go_at_call 253; refine HH.out.mono ?_; rintro e_ w2 ⟨rfl, hb2⟩; have HX := zk hb2; clear hb2)
  go_ret
  exact ⟨by simp [h0], HX.out⟩
 | false =>
  have h0 : ¬ 0 ≤ R := of_decide_eq_false hd
  clear hd
  go_enter Try.func260, Try.ntmps260
  go_wp2_with (go_at_call 253; refine HH.out.mono ?_; rintro e_ w2 ⟨rfl, hb2⟩; have HX := zk hb2; clear hb2)
  go_ret
  exact ⟨by simp [h0], HX.out⟩
set_option maxHeartbeats 8000000 in
set_option maxRecDepth 100000 in
theorem deleteFunc_av2 (c1_ : Value) (bad : List Int → Bool) (xs : List (List Int)) (w : World) (base g cap : Nat) (ok : Nat → Prop) (hS : Kd.S (Kd.slice 3 (Kd.int .i64)) 22 w base ok (.slice (some ⟨g, 0, none⟩) xs.length cap) xs) (hlen : xs.length ≤ 4611686018427387904)
 (hcb : ∀ W A c x, Fr (fun k => k = g) w W → x ∈ xs → Kd.C (Kd.int .i64) W A x.length x → x.length ≤ c → Calls Try.prog 262 #[.slice A x.length c, c1_] W fun e w' => e = .returned (.bool (bad x)) ∧ Below W.heap.size W w') :
 Calls Try.prog 174 #[.slice (some ⟨g, 0, none⟩) xs.length cap, .func (.func 262) #[] #[c1_]] w fun e w' => e = .returned (.slice (some ⟨g, 0, none⟩) (xs.filter (fun x => !bad x)).length cap) ∧ Kd.S (Kd.slice 3 (Kd.int .i64)) 22 w' base (fun _ => True) (.slice (some ⟨g, 0, none⟩) (xs.filter (fun x => !bad x)).length cap) (xs.filter (fun x => !bad x)) ∧ Fr (fun k => k = g) w w' := by
 have HI := zk (indexFunc_av2 c1_ bad xs (some ⟨g, 0, none⟩) cap w (Kd.S_reads' hS).2.2 (Kd.S_reads' hS).2.1 hlen (fun W A c x hb hx hC hc => hcb W A c x (Fr.of_below hb) hx hC hc))
 have HCB := zk hcb
 have HS := zk hS
 obtain ⟨R, hR⟩ : ∃ R, idxGo bad xs 0 = R := ⟨_, rfl⟩
 rw [hR] at HI
 have hi := idxGo_iff bad xs 0 (Int.le_refl _)
 rw [hR] at hi
 by_cases hneg : 0 ≤ R
 · obtain ⟨pre0, c0, suf0, hxs, hRe, hgood, hbad⟩ := idxGo_split bad xs 0 R (Int.le_refl _) hR hneg
   rw [Int.zero_add] at hRe
   obtain ⟨cs, ps, hblk, hbg, hcl, _, hnc, hcm, htk, hsnd, hV⟩ := S_open hS
   have hpl : ps.length = xs.length := by rw [← hsnd]; simp
   obtain ⟨pre1, suf1, hDI, hpre1⟩ := DI.start (bad := bad) (cap := cap) (cs := cs) (by rw [hsnd]; exact hxs) hcl (by omega) (by rw [hpl]; exact htk) hgood hbad
   have HV := zk hV
   have HSND := zk hsnd
   have HPL := zk hpl
   have HBLK := zk hblk
   have HDI := zk hDI
   have HP1 := zk hpre1
   have HCM := zk (And.intro hbg (And.intro hnc hcm))
   have hpre : (pre0.length : Int) ≤ 4611686018427387903 := by have := congrArg List.length hxs; simp at this; omega
   have hR1 : ((pre0.length : Int) == -1) = false := by simp
   have hw1 : wrap64 ((pre0.length : Int) + 1) = (pre0.length : Int) + 1 := by unfold wrap64; omega
   subst hRe
   clear hS hcb hR hi hneg hgood hbad hblk htk hsnd hV hDI hpl hcm hxs hcl hpre1 hbg hnc
   go_enter Try.func174, Try.ntmps174
   go_wp2_with (go_at_call 253; refine HI.out.mono ?_; rintro e_ w2 ⟨rfl, hb2⟩; have HB2 := zk hb2; clear hb2)
   go_loopg [5, 6] suf1.length (fun kq v5 v6 wr => ∃ (pre suf : List (Value × List Int)) (cs : List Value) (i : Nat), v5 = .int .i64 (i : Int) ∧ v6 = .int .i64 (pre.length : Int) ∧ kq = suf.length ∧ Aside0 (wr.heap[g]? = some (.cells cs.toArray 22 (0, 0))) ∧ Aside0 (DI bad cap ps cs pre suf i) ∧ Aside0 (Fr (fun k => k = g) w wr))
   case atStart =>
    refine ⟨pre1, suf1, cs, pre0.length, rfl, ?_, rfl, ⟨blk_fr HBLK.out (Fr.of_below (S := fun _ => False) HB2.out) (fun h => h)⟩, HDI, ⟨Fr.of_below HB2.out⟩⟩
    rw [HP1.out]; simp
   case round =>
    clear HI HB2 HDI HP1 hw1 hR1
    obtain ⟨pre, suf, cs, i, rfl, rfl, rfl, HBK, HD, HF⟩ := hrel
    have hbd := HD.out.bound
    have hpl := HPL.out
    have hlt := HD.out.lt
    have hcl := HD.out.len
    obtain ⟨_, hnc, hcm⟩ := HCM.out
    cases suf with
    | nil =>
     simp only [List.length_nil, Nat.add_zero] at hbd
     have hg : ¬ ((pre.length : Int) < (xs.length : Int)) := by omega
     have hgb : decide ((pre.length : Int) < (xs.length : Int)) = false := decide_eq_false hg
     have hcells : ∀ t, t < xs.length - i → (wr.cell? ⟨g, i + t, none⟩).isSome = true := fun t ht => by
      rw [blk_cell HBK.out]
      have : i + t < cs.length := by omega
      simp [List.getElem?_eq_getElem this]
     have hcl0 := fun ty => Lib.run_clear_slice (P := Try.prog) wr 28 22 ty (.slice none 0 0) Try.underlying28 Try.zeroValue22 rfl rfl g i (xs.length - i) (cap - i) (by omega) hcells (fun t _ => blk_frozen HBK.out _)
     obtain ⟨cur, hb2, hs2, hl2⟩ := setCells_row (List.replicate (xs.length - i) (.slice none 0 0)) i wr cs.toArray HBK.out (by simp; omega)
     have hFr : Fr (fun k => k = g) w (wr.setCells g i (List.replicate (xs.length - i) (.slice none 0 0))) := HF.out.trans (Fr.setCells (S := fun k => k = g) rfl _ _ _)
     have hkeep : (ps.filter (fun p => !bad p.2)).map (·.2) = xs.filter (fun x => !bad x) := by
      rw [← HSND.out, List.filter_map]; rfl
     have hall := HD.out.all
     rw [List.append_nil] at hall
     have hki := HD.out.ki
     have hhd := HD.out.head
     rw [← hall] at hki hhd
     have hil : (xs.filter (fun x => !bad x)).length = i := by rw [← hkeep, List.length_map, hki]
     have hcur : cur.toList.take i = (ps.filter (fun p => !bad p.2)).map (·.1) := by
      rw [hl2, List.take_append_of_le_length (by simp; omega), List.take_append_of_le_length (by simp; omega)]
      rw [← hhd, List.take_take, Nat.min_self]
     have hsz : cur.toList.length = cap := by rw [Array.length_toList, hs2]; simpa using hcl
     have hclose := S_close (base := base) (cs := cur.toList) (by simpa using hb2) HCM.out.1 (show i ≤ cur.toList.length by omega) (by rw [hsz]; exact hcm) hcur ((HV.out.fr hFr).sub List.filter_sublist)
     rw [hkeep, hsz] at hclose
     have HIL := zk hil
     have HX := zk (And.intro hclose hFr)
     have hic : i < cap := by omega
     have hic2 : ¬ cap = i := by omega
     have hii : (i : Int) ≤ (xs.length : Int) := by omega
     clear hclose hFr hkeep hall hki hhd hil hcur hsz hb2 hs2 hl2 hcells hlt hbd hcl hpl
     go_wp2
     go_ret
     exact ⟨by rw [HIL.out]; rfl, by rw [HIL.out]; exact HX.out.1, HX.out.2⟩
    | cons p t =>
     simp only [List.length_cons] at hbd
     have hg : (pre.length : Int) < (xs.length : Int) := by omega
     have hgb : decide ((pre.length : Int) < (xs.length : Int)) = true := decide_eq_true hg
     obtain ⟨v, x⟩ := p
     have hpm : (v, x) ∈ ps := by rw [HD.out.all]; simp
     obtain ⟨A, c, e⟩ := Kd.R_slice (HV.out.row _ hpm)
     simp only at e
     subst e
     have hR := (HV.out.fr HF.out).row _ hpm
     have hcell : wr.cell? ⟨g, pre.length, none⟩ = some (.slice A x.length c) := by rw [blk_cell HBK.out]; simpa using HD.out.cell
     have hxm : x ∈ xs := by rw [← HSND.out]; exact List.mem_map_of_mem (f := (·.2)) hpm
     have H := HCB.out wr A c x HF.out hxm (Kd.R_reads' hR).2.2 (Kd.R_reads' hR).2.1
     have hb1 : (pre.length : Int) ≤ 4611686018427387904 := by omega
     have hib : (i : Int) ≤ 4611686018427387904 := by omega
     have hix : (i : Int) < (xs.length : Int) := by omega
     have hixn : i < xs.length := by omega
     have hold : ∃ old, cs[i]? = some old := ⟨cs[i]'(by omega), List.getElem?_eq_getElem _⟩
     obtain ⟨old, hold⟩ := hold
     have HOLD := zk hold
     clear hR hbd hpl hlt hcl hold hxm hpm
     cases hbx : bad x with
     | true =>
      rw [hbx] at H
      have HH := zk H
      have HBX := zk hbx
      clear H hbx
      go_wp2_with (go_at_call 262; refine HH.out.mono ?_; rintro e_ w6 ⟨rfl, hb6⟩; have HX := zk hb6; clear hb6)
      go_roundg t.length
      case measure => simp
      case rel => exact ⟨pre ++ [(.slice A x.length c, x)], t, cs, i, rfl, by simp [wrap64], rfl, ⟨blk_below HBK.out HX.out⟩, ⟨HD.out.skip HBX.out⟩, ⟨HF.out.trans (Fr.of_below HX.out)⟩⟩
     | false =>
      rw [hbx] at H
      have HH := zk H
      have HBX := zk hbx
      clear H hbx
      go_wp2_with (go_at_call 262; refine HH.out.mono ?_; rintro e_ w6 ⟨rfl, hb6⟩; have HX := zk hb6; have ci := (blk_cell (blk_below HBK.out hb6) i).trans (show cs.toArray[i]? = some old by simpa using HOLD.out); have fi := blk_frozen (blk_below HBK.out hb6) i; clear hb6)
      go_roundg t.length
      case measure => simp
      case rel => exact ⟨pre ++ [(.slice A x.length c, x)], t, cs.set i (.slice A x.length c), i + 1, by simp [wrap64], by simp [wrap64], rfl, ⟨by have := blk_set (blk_below HBK.out HX.out) i (.slice A x.length c); simpa using this⟩, ⟨HD.out.keep HBX.out⟩, ⟨(HF.out.trans (Fr.of_below HX.out)).trans (Fr.set (S := fun k => k = g) rfl _ _)⟩⟩
 · have hn : xs.any bad = false := by
    cases h : xs.any bad with
    | false => rfl
    | true => exact absurd (hi.2 h) hneg
   have hf : xs.filter (fun x => !bad x) = xs := by
    rw [List.filter_eq_self]
    intro x hx
    have := (List.any_eq_false.1 hn) x hx
    simpa using this
   have hm : R = -1 := by
    have key : ∀ (s : List (List Int)) (i : Int), (∀ x ∈ s, ¬ bad x = true) → idxGo bad s i = -1 := by
     intro s
     induction s with
     | nil => intro i _; rfl
     | cons c s ih =>
      intro i h
      simp only [idxGo]
      rw [if_neg (h c (by simp))]
      exact ih _ (fun x hx => h x (by simp [hx]))
    rw [← hR]; exact key xs 0 (List.any_eq_false.1 hn)
   subst hm
   rw [hf]
   clear hS hcb hR hi hneg hn hf
   go_enter Try.func174, Try.ntmps174
   go_wp2_with (go_at_call 253; refine HI.out.mono ?_; rintro e_ w2 ⟨rfl, hb2⟩; have HB2 := zk hb2; clear hb2)
   go_ret
   exact ⟨rfl, Kd.S_mono (Kd.S_below HS.out HB2.out) (fun _ _ => trivial), Fr.of_below HB2.out⟩
set_option maxHeartbeats 8000000 in
set_option maxRecDepth 100000 in
theorem avoiding_cb (l1 : List (List Int)) (A1 : Option Addr) (c1 : Nat) (gb : Nat) (w0 W : World) (hb0 : Below w0.heap.size w0 W) (hgb : W.heap[gb]? = some (.cells #[.slice A1 l1.length c1] 28 (0, 0))) (hr1 : Kd.C (Kd.slice 3 (Kd.int .i64)) w0 A1 l1.length l1) (hc1 : l1.length ≤ c1)
 (A : Option Addr) (c : Nat) (x : List Int) (b : Bool) (hx : impl_avoids.f x l1 = some b) (hC : Kd.C (Kd.int .i64) W A x.length x) (hc : x.length ≤ c) :
 Calls Try.prog 262 #[.slice A x.length c, .pointer (some ⟨gb, 0, none⟩)] W fun e w' => e = .returned (.bool (!b)) ∧ Below W.heap.size W w' := by
 have H := impl_avoids.calls A c x A1 c1 l1 b W hC hc (Kd.C_below hr1 hb0) hc1 hx
 have HH := zk H
 have cg := cell_of_one hgb
 clear H hC hr1 hb0 hgb hx
 cases b with
 | true =>
  go_enter Try.func262, Try.ntmps262
  go_wp2_with (go_at_call 229; refine HH.out.mono ?_; rintro e_ w2 ⟨rfl, hb2⟩; have HX := zk hb2; clear hb2)
  go_ret
  exact ⟨rfl, HX.out⟩
 | false =>
  go_enter Try.func262, Try.ntmps262
  go_wp2_with (go_at_call 229; refine HH.out.mono ?_; rintro e_ w2 ⟨rfl, hb2⟩; have HX := zk hb2; clear hb2)
  go_ret
  exact ⟨rfl, HX.out⟩
def impl_avoiding.f (k : Nat) (a0 : Int) (l1 : List (List Int)) : Option (List (List Int)) := (impl_allOrders.f k a0).bind fun rows => if 0 < rows.length ∧ rows.length ≤ 4611686018427387904 then keepM (fun c => impl_avoids.f c l1) rows else none
set_option maxHeartbeats 8000000 in
set_option maxRecDepth 100000 in
theorem impl_avoiding.calls (k : Nat) (a0 : Int) (A1 : Option Addr) (c1 : Nat) (l1 : List (List Int)) (r : List (List Int)) (w : World) (hr1 : Kd.C (Kd.slice 3 (Kd.int .i64)) w A1 l1.length l1) (hc1 : l1.length ≤ c1) (h : impl_avoiding.f k a0 l1 = some r) :
 Calls Try.prog 223 #[.int .i64 a0, .slice A1 l1.length c1] w fun e w' => ∃ v0_ : Value, e = .returned (v0_) ∧ Kd.S (Kd.slice 3 (Kd.int .i64)) 22 w' w.heap.size (fun _ => True) v0_ r ∧ Below w.heap.size w w' := by
 unfold impl_avoiding.f at h
 have h2 := Option.bind_eq_some_iff.1 h
 clear h
 obtain ⟨rows, ho, h⟩ := h2
 by_cases hq : 0 < rows.length ∧ rows.length ≤ 4611686018427387904
 · rw [if_pos hq] at h
   obtain ⟨hall, rfl⟩ := keepM_some h
   have hmf : ∀ (fn : Fn) (first cap : Array Value) (w : World), (Instr.makeFunc fn first cap).run Try.prog w = .ok (.func fn first cap) w := fun _ _ _ _ => rfl
   have HO := zk ho
   have HALL := zk hall
   have HQ := zk hq
   have HR1 := zk hr1
   have HBX := zk (blk_new w (Obj.cells #[Value.slice A1 l1.length c1] 28))
   have HBW := zk (za (Below.refl w.heap.size w) (Obj.cells #[Value.slice A1 l1.length c1] 28))
   obtain ⟨R, hR⟩ : ∃ R, rows.filter (fun x => impl_avoids.f x l1 == some true) = R := ⟨_, rfl⟩
   rw [hR]
   have HRR := zk hR
   clear h ho hall hq hr1 hR
   go_enter Try.func223, Try.ntmps223
   go_wp2_with (first | (go_at_call 175; refine (impl_allOrders.calls k a0 rows _ HO.out).mono ?_; rintro e_ w2 ⟨v2, rfl, hs2, hb2⟩; obtain ⟨g, cap, eg, gb, gl, _⟩ := Kd.S_form hs2 HQ.out.1; subst eg; have HS2 := zk hs2; have HB2 := zk (below_step HBW.out hb2); have HBK := zk (blk_below HBX.out hb2); have HG := zk (show w.heap.size + 1 ≤ g by simpa using gb); clear hs2 hb2 gb gl) | (go_at_call 174; refine (deleteFunc_av2 (.pointer (some ⟨w.heap.size, 0, none⟩)) (fun x => !(impl_avoids.f x l1 == some true)) rows w2 _ g cap _ HS2.out HQ.out.2 (fun W A c x hF hx hC hc => ?cb)).mono ?_; (case cb => obtain ⟨b, hb⟩ := HALL.out x hx; have hh := avoiding_cb l1 A1 c1 w.heap.size w W (HB2.out.trans (hF.below HB2.out.size (fun k_ hk => by have := HG.out; omega))) (blk_fr HBK.out hF (fun hk => by have := HG.out; omega)) HR1.out hc1 A c x b hb hC hc; rw [hb]; cases b <;> exact hh); rintro e_ w3 ⟨rfl, hs3, hf3⟩; have HS3 := zk hs3; have HF3 := zk hf3; clear hs3 hf3))
   go_ret
   have hS := HS3.out
   simp only [Bool.not_not] at hS
   rw [HRR.out] at hS
   have hg := HG.out
   refine ⟨_, by simp only [Bool.not_not, HRR.out]; rfl, Kd.S_lower hS (by simp), HB2.out.trans (HF3.out.below HB2.out.size (fun k_ hk => by omega))⟩
 · rw [if_neg hq] at h; cases h
end

/-! ### impl_CountAvoiding: function 109 -/
def impl_CountAvoiding.f (k : Nat) (a0 : Int) (l1 : List (List Int)) : Option (Int × Bool) := (impl_isSize.f a0).bind fun t330 => (if t330 = true then ((impl_arePatterns.f l1).bind fun t331 => (if t331 = true then ((impl_avoiding.f k a0 l1).bind fun t332 => (some ((t332.length : Int), true))) else (some (0, false)))) else (some (0, false)))
set_option maxHeartbeats 8000000 in
set_option maxRecDepth 100000 in
theorem impl_CountAvoiding.calls (k : Nat) (a0 : Int) (A1 : Option Addr) (c1 : Nat) (l1 : List (List Int)) (r1 : Int) (r2 : Bool) (w : World) (hr1 : Kd.C (Kd.slice 3 (Kd.int .i64)) w A1 l1.length l1) (hc1 : l1.length ≤ c1) (h : impl_CountAvoiding.f k a0 l1 = some (r1, r2)) :
 Calls Try.prog 109 #[.int .i64 a0, .slice A1 l1.length c1] w fun e w' => e = .returned (.tuple #[.int .i64 r1, .bool r2]) ∧ Below w.heap.size w w' := by
 have HR1 := zk hr1
 have HC1 := zk hc1
 clear hr1 hc1
 have HB := zk (Below.refl w.heap.size w)
 have H := h
 unfold impl_CountAvoiding.f at H
 clear h
 replace H := Option.bind_eq_some_iff.mp H
 obtain ⟨t330, A30, H⟩ := H
 try dsimp only at H
 have A3 := zk A30
 clear A30
 by_cases c4 : t330 = true
 rotate_left
 · replace c4 := Bool.eq_false_iff.mpr c4
   subst c4
   have H1 : (some (0, false)) = some (r1, r2) := by rw [if_neg (show ¬ (false = true) by decide)] at H; exact H
   clear H
   have H := H1
   clear H1
   simp only [Option.some.injEq, Prod.mk.injEq] at H
   obtain ⟨rfl, rfl⟩ := H
   go_enter Try.func109, Try.ntmps109
   go_wp2_with (first | ((with_reducible refine gate_callee (f := 158) rfl ?_); refine zG (some 7) Try.func158 #[.int .i64 a0] ?_; (with_reducible refine (impl_isSize.calls a0 false _ A3.out).mono ?_); rintro e w' ⟨rfl, ⟨nd, rfl⟩⟩; refine ⟨_, rfl, ?_⟩))
   go_ret2
   exact ⟨by first | rfl | (simp [errW_none, errW_some] <;> rfl) | (simp [*, errW_none, errW_some] <;> rfl), by repeat (first | exact HB.out | apply za | apply zd | apply ze)⟩
 subst c4
 have H1 : ((impl_arePatterns.f l1).bind fun t331 => (if t331 = true then ((impl_avoiding.f k a0 l1).bind fun t332 => (some ((t332.length : Int), true))) else (some (0, false)))) = some (r1, r2) := by rw [if_pos rfl] at H; exact H
 clear H
 have H := H1
 clear H1
 replace H := Option.bind_eq_some_iff.mp H
 obtain ⟨t331, A50, H⟩ := H
 try dsimp only at H
 have A5 := zk A50
 clear A50
 by_cases c6 : t331 = true
 rotate_left
 · replace c6 := Bool.eq_false_iff.mpr c6
   subst c6
   have H1 : (some (0, false)) = some (r1, r2) := by rw [if_neg (show ¬ (false = true) by decide)] at H; exact H
   clear H
   have H := H1
   clear H1
   simp only [Option.some.injEq, Prod.mk.injEq] at H
   obtain ⟨rfl, rfl⟩ := H
   go_enter Try.func109, Try.ntmps109
   go_wp2_with (first | ((with_reducible refine gate_callee (f := 158) rfl ?_); refine zG (some 7) Try.func158 #[.int .i64 a0] ?_; (with_reducible refine (impl_isSize.calls a0 true _ A3.out).mono ?_); rintro e w' ⟨rfl, ⟨nd, rfl⟩⟩; refine ⟨_, rfl, ?_⟩) | (go_at_call 222; (with_reducible refine (impl_arePatterns.calls _ _ l1 false _ ?side1 ?side2 A5.out).mono ?_); (case side1 => exact zC HR1.out); (case side2 => exact HC1.out); rintro e w11 ⟨rfl, hb⟩; replace HB := zF HB hb; (try clear hb); (try clear hb2); (try clear hk); (try clear hi)))
   go_ret2
   exact ⟨by first | rfl | (simp [errW_none, errW_some] <;> rfl) | (simp [*, errW_none, errW_some] <;> rfl), by repeat (first | exact HB.out | apply za | apply zd | apply ze)⟩
 subst c6
 have H1 : ((impl_avoiding.f k a0 l1).bind fun t332 => (some ((t332.length : Int), true))) = some (r1, r2) := by rw [if_pos rfl] at H; exact H
 clear H
 have H := H1
 clear H1
 replace H := Option.bind_eq_some_iff.mp H
 obtain ⟨t332, A70, H⟩ := H
 try dsimp only at H
 have A7 := zk A70
 clear A70
 simp only [Option.some.injEq, Prod.mk.injEq] at H
 obtain ⟨rfl, rfl⟩ := H
 go_enter Try.func109, Try.ntmps109
 go_wp2_with (first | ((with_reducible refine gate_callee (f := 158) rfl ?_); refine zG (some 7) Try.func158 #[.int .i64 a0] ?_; (with_reducible refine (impl_isSize.calls a0 true _ A3.out).mono ?_); rintro e w' ⟨rfl, ⟨nd, rfl⟩⟩; refine ⟨_, rfl, ?_⟩) | (go_at_call 222; (with_reducible refine (impl_arePatterns.calls _ _ l1 true _ ?side1 ?side2 A5.out).mono ?_); (case side1 => exact zC HR1.out); (case side2 => exact HC1.out); rintro e w8 ⟨rfl, hb⟩; replace HB := zF HB hb; (try clear hb); (try clear hb2); (try clear hk); (try clear hi)) | ((with_reducible refine gate_callee (f := 223) rfl ?_); refine zG (some 16) Try.func223 #[.int .i64 a0, .slice A1 l1.length c1] ?_; (with_reducible refine (impl_avoiding.calls k a0 _ _ l1 t332 _ ?side1 ?side2 A7.out).mono ?_); (case side1 => exact zC (Kd.C_below HR1.out HB.out)); (case side2 => exact HC1.out); rintro e w9 ⟨v333, rfl, ho0, hb⟩; refine ⟨_, rfl, ?_⟩; have HO334 := zk (Kd.S_lower ho0 (below_size (zB HB))); replace HB := zF HB hb; (try clear hb ho0); obtain ⟨Ao10, co10, eo10⟩ := Kd.S_slice HO334.out; subst eo10))
 go_ret2
 exact ⟨by first | rfl | (simp [errW_none, errW_some] <;> rfl) | (simp [*, errW_none, errW_some] <;> rfl), by repeat (first | exact HB.out | apply za | apply zd | apply ze)⟩

/-! ### spec_l1In: function 154 -/
def spec_l1In.f (a0 : Int) (a1 : Int) (a2 : Int) : Option (Bool) := if a0 ≥ a1 then (some (decide (a0 ≤ a2))) else (some false)
set_option maxHeartbeats 8000000 in
set_option maxRecDepth 100000 in
theorem spec_l1In.calls (a0 : Int) (a1 : Int) (a2 : Int) (r : Bool) (w : World) (h : spec_l1In.f a0 a1 a2 = some r) :
 Calls Try.prog 154 #[.int .i64 a0, .int .i64 a1, .int .i64 a2] w fun e w' => e = .returned (.bool r) ∧ Drawn0 w w' := by
 have H : (if a0 ≥ a1 then (some (decide (a0 ≤ a2))) else (some false)) = some r := h
 clear h
 by_cases c4 : a0 ≥ a1
 rotate_left
 · rw [if_neg c4] at H
   have c4b0 := decide_eq_false c4
   clear c4
   obtain rfl := Option.some.inj H
   go_enter Try.func154, Try.ntmps154
   go_wp2
   go_ret
   exact ⟨zX, zD⟩
 rw [if_pos c4] at H
 have c4b0 := decide_eq_true c4
 clear c4
 obtain rfl := Option.some.inj H
 go_enter Try.func154, Try.ntmps154
 go_wp2
 go_ret
 exact ⟨zX, zD⟩

/-! ### spec_l3Size: function 224 -/
def spec_l3Size.f (a0 : Int) : Option (Bool) := (spec_l1In.f a0 1 7).bind fun t335 => (some t335)
set_option maxHeartbeats 8000000 in
set_option maxRecDepth 100000 in
theorem spec_l3Size.calls (a0 : Int) (r : Bool) (w : World) (h : spec_l3Size.f a0 = some r) :
 Calls Try.prog 224 #[.int .i64 a0] w fun e w' => e = .returned (.bool r) ∧ Drawn0 w w' := by
 have H : ((spec_l1In.f a0 1 7).bind fun t335 => (some t335)) = some r := h
 clear h
 replace H := Option.bind_eq_some_iff.mp H
 obtain ⟨t335, A20, H⟩ := H
 try dsimp only at H
 have A2 := zk A20
 clear A20
 obtain rfl := Option.some.inj H
 go_enter Try.func224, Try.ntmps224
 go_wp2_with (first | ((with_reducible refine gate_callee (f := 154) rfl ?_); refine zG (some 4) Try.func154 #[.int .i64 a0, .int .i64 1, .int .i64 7] ?_; (with_reducible refine (spec_l1In.calls a0 1 7 t335 _ A2.out).mono ?_); rintro e w' ⟨rfl, ⟨nd, rfl⟩⟩; refine ⟨_, rfl, ?_⟩))
 go_ret
 exact ⟨zX, zD⟩

/-! ### spec_l1Has: function 244 -/
def spec_l1Has.l0 : Nat → List Int → Int → Int → Option (Bool)
 | 0, _, _, _ => none
 | k + 1, x0, x1, x5 => if x5 < (x0.length : Int) then (if 0 ≤ x5 then (if (rd x0 x5) = x1 then (some true) else (spec_l1Has.l0 k x0 x1 (wrap64 (x5 + 1)))) else (none)) else (some false)
def spec_l1Has.f (k : Nat) (l0 : List Int) (a1 : Int) : Option (Bool) := spec_l1Has.l0 k l0 a1 0
set_option maxHeartbeats 8000000 in
set_option maxRecDepth 100000 in
theorem spec_l1Has.calls (k : Nat) (A0 : Option Addr) (c0 : Nat) (l0 : List Int) (a1 : Int) (r : Bool) (w : World) (hr0 : Kd.C (Kd.int .i64) w A0 l0.length l0) (hc0 : l0.length ≤ c0) (h : spec_l1Has.f k l0 a1 = some r) :
 Calls Try.prog 244 #[.slice A0 l0.length c0, .int .i64 a1] w fun e w' => e = .returned (.bool r) ∧ Drawn0 w w' := by
 have HR0 := zk hr0
 have HC0 := zk hc0
 clear hr0 hc0
 have H : (spec_l1Has.l0 k l0 a1 0) = some r := h
 clear h
 have H' := zk H
 clear H
 go_enter Try.func244, Try.ntmps244
 go_wp2
 go_loopg [5] k (fun kq v5 w' => ∃ (x5_1 : Int), v5 = .int .i64 x5_1 ∧ Aside0 (spec_l1Has.l0 kq l0 a1 x5_1 = some r) ∧ Aside0 (kq ≤ k) ∧ Drawn0 w w')
 case atStart => exact ⟨(0), (by first | rfl | (simp; done) | (simp [*]; done)), H', ⟨Nat.le_refl _⟩, zD⟩
 case round =>
  clear H'
  try clear c2
  try clear p2
  obtain ⟨x5_1, rfl, HA, HK1, ⟨m1, rfl⟩⟩ := hrel
  cases gk with
  | zero => exact absurd HA.out (by simp [spec_l1Has.l0])
  | succ k1 =>
   have H := HA.out
   clear HA
   simp only [spec_l1Has.l0] at H
   by_cases c3 : x5_1 < (l0.length : Int)
   rotate_left
   · rw [if_neg c3] at H
     have c3b0 := decide_eq_false c3
     clear c3
     obtain rfl := Option.some.inj H
     go_wp2
     go_ret
     exact ⟨zX, zD⟩
   rw [if_pos c3] at H
   have c3b0 := decide_eq_true c3
   clear c3
   by_cases c4 : 0 ≤ x5_1
   rotate_left
   · rw [if_neg c4] at H
     exact absurd H (by simp)
   rw [if_pos c4] at H
   have c4b0 := decide_eq_true c4
   clear c4
   by_cases c5 : (rd l0 x5_1) = a1
   rotate_left
   · rw [if_neg c5] at H
     have c5b0 : ((rd l0 x5_1) == a1) = false := beq_eq_false_iff_ne.mpr c5
     have c5b1 : ((rd l0 x5_1) != a1) = true := bne_iff_ne.mpr c5
     have H' := zk H
     clear H
     have p336 : 0 ≤ (x5_1 : Int) := zo (by assumption)
     have q336 : x5_1 < (l0.length : Int) := zo (by assumption)
     obtain ⟨ad336, e336, hx336_0⟩ := Kd.at_int HR0.out x5_1 p336 q336
     cases e336
     replace p336 := eq_true p336
     replace q336 := eq_true q336
     go_wp2
     go_roundg k1
     case measure => have := HK1.out; omega
     case rel => exact ⟨(wrap64 (x5_1 + 1)), (by first | rfl | (simp; done) | (simp [*]; done)), H', ⟨by have := HK1.out; omega⟩, zD⟩
   rw [if_pos c5] at H
   have c5b0 : ((rd l0 x5_1) == a1) = true := beq_iff_eq.mpr c5
   have c5b1 : ((rd l0 x5_1) != a1) = false := bne_eq_false_iff_eq.mpr c5
   clear c5
   obtain rfl := Option.some.inj H
   have p336 : 0 ≤ (x5_1 : Int) := zo (by assumption)
   have q336 : x5_1 < (l0.length : Int) := zo (by assumption)
   obtain ⟨ad336, e336, hx336_0⟩ := Kd.at_int HR0.out x5_1 p336 q336
   cases e336
   replace p336 := eq_true p336
   replace q336 := eq_true q336
   go_wp2
   go_ret
   exact ⟨zX, zD⟩

/-! ### spec_l2Order: function 142 -/
def spec_l2Order.l0 : Nat → List Int → Int → Option (Bool)
 | 0, _, _ => none
 | k + 1, x0, x3 => if x3 < (x0.length : Int) then (if 0 ≤ x3 then ((spec_l1In.f (rd x0 x3) 1 (x0.length : Int)).bind fun t339 => (if t339 = true then (if x3 ≤ (x0.length : Int) then ((spec_l1Has.f k (x0.take (x3 : Int).toNat) (rd x0 x3)).bind fun t345 => (if t345 = true then (some false) else (spec_l2Order.l0 k x0 (wrap64 (x3 + 1))))) else (none)) else (some false))) else (none)) else (some true)
def spec_l2Order.f (k : Nat) (l0 : List Int) : Option (Bool) := (spec_l1In.f (l0.length : Int) 1 7).bind fun t337 => (if t337 = true then (spec_l2Order.l0 k l0 0) else (some false))
set_option maxHeartbeats 8000000 in
set_option maxRecDepth 100000 in
theorem spec_l2Order.calls (k : Nat) (A0 : Option Addr) (c0 : Nat) (l0 : List Int) (r : Bool) (w : World) (hr0 : Kd.C (Kd.int .i64) w A0 l0.length l0) (hc0 : l0.length ≤ c0) (h : spec_l2Order.f k l0 = some r) :
 Calls Try.prog 142 #[.slice A0 l0.length c0] w fun e w' => e = .returned (.bool r) ∧ Drawn0 w w' := by
 have HR0 := zk hr0
 have HC0 := zk hc0
 clear hr0 hc0
 have H := h
 unfold spec_l2Order.f at H
 clear h
 replace H := Option.bind_eq_some_iff.mp H
 obtain ⟨t337, A20, H⟩ := H
 try dsimp only at H
 have A2 := zk A20
 clear A20
 by_cases c3 : t337 = true
 rotate_left
 · replace c3 := Bool.eq_false_iff.mpr c3
   subst c3
   have H1 : (some false) = some r := by rw [if_neg (show ¬ (false = true) by decide)] at H; exact H
   clear H
   have H := H1
   clear H1
   obtain rfl := Option.some.inj H
   go_enter Try.func142, Try.ntmps142
   go_wp2_with (first | (go_at_call 154; (with_reducible refine (spec_l1In.calls (l0.length : Int) 1 7 false _ A2.out).mono ?_); rintro e w' ⟨rfl, ⟨nd, rfl⟩⟩; (try first | exact ⟨rfl, _, World.drewN_drewN _ _ _⟩ | exact ⟨rfl, _, Eq.trans (World.drewN_drewN _ _ _) (congrArg (World.drewN _) (Nat.add_assoc _ _ _))⟩)))
   repeat (go_quiet (first | (go_at_call 154; (with_reducible refine (spec_l1In.calls (l0.length : Int) 1 7 false _ A2.out).mono ?_); rintro e w' ⟨rfl, ⟨nd, rfl⟩⟩; (try first | exact ⟨rfl, _, World.drewN_drewN _ _ _⟩ | exact ⟨rfl, _, Eq.trans (World.drewN_drewN _ _ _) (congrArg (World.drewN _) (Nat.add_assoc _ _ _))⟩))); try go_wp2_with (first | (go_at_call 154; (with_reducible refine (spec_l1In.calls (l0.length : Int) 1 7 false _ A2.out).mono ?_); rintro e w' ⟨rfl, ⟨nd, rfl⟩⟩; (try first | exact ⟨rfl, _, World.drewN_drewN _ _ _⟩ | exact ⟨rfl, _, Eq.trans (World.drewN_drewN _ _ _) (congrArg (World.drewN _) (Nat.add_assoc _ _ _))⟩))))
   go_ret
   exact ⟨zX, zD⟩
 subst c3
 have H1 : (spec_l2Order.l0 k l0 0) = some r := by rw [if_pos rfl] at H; exact H
 clear H
 have H := H1
 clear H1
 have H' := zk H
 clear H
 go_enter Try.func142, Try.ntmps142
 go_wp2_with (first | (go_at_call 154; (with_reducible refine (spec_l1In.calls (l0.length : Int) 1 7 true _ A2.out).mono ?_); rintro e w' ⟨rfl, ⟨nd, rfl⟩⟩; (try first | exact ⟨rfl, _, World.drewN_drewN _ _ _⟩ | exact ⟨rfl, _, Eq.trans (World.drewN_drewN _ _ _) (congrArg (World.drewN _) (Nat.add_assoc _ _ _))⟩)))
 repeat (go_quiet (first | (go_at_call 154; (with_reducible refine (spec_l1In.calls (l0.length : Int) 1 7 true _ A2.out).mono ?_); rintro e w' ⟨rfl, ⟨nd, rfl⟩⟩; (try first | exact ⟨rfl, _, World.drewN_drewN _ _ _⟩ | exact ⟨rfl, _, Eq.trans (World.drewN_drewN _ _ _) (congrArg (World.drewN _) (Nat.add_assoc _ _ _))⟩))); try go_wp2_with (first | (go_at_call 154; (with_reducible refine (spec_l1In.calls (l0.length : Int) 1 7 true _ A2.out).mono ?_); rintro e w' ⟨rfl, ⟨nd, rfl⟩⟩; (try first | exact ⟨rfl, _, World.drewN_drewN _ _ _⟩ | exact ⟨rfl, _, Eq.trans (World.drewN_drewN _ _ _) (congrArg (World.drewN _) (Nat.add_assoc _ _ _))⟩))))
 go_loopg [3] k (fun kq v3 w' => ∃ (x3_1 : Int), v3 = .int .i64 x3_1 ∧ Aside0 (spec_l2Order.l0 kq l0 x3_1 = some r) ∧ Aside0 (kq ≤ k) ∧ Drawn0 w w')
 case atStart => exact ⟨(0), (by first | rfl | (simp; done) | (simp [*]; done)), H', ⟨Nat.le_refl _⟩, zD⟩
 case round =>
  clear H'
  try clear c1
  try clear p2
  try clear c3
  obtain ⟨x3_1, rfl, HA, HK1, ⟨m1, rfl⟩⟩ := hrel
  cases gk with
  | zero => exact absurd HA.out (by simp [spec_l2Order.l0])
  | succ k1 =>
   have H := HA.out
   clear HA
   simp only [spec_l2Order.l0] at H
   by_cases c4 : x3_1 < (l0.length : Int)
   rotate_left
   · rw [if_neg c4] at H
     have c4b0 := decide_eq_false c4
     clear c4
     obtain rfl := Option.some.inj H
     go_wp2
     repeat (go_quiet (fail); try go_wp2)
     go_ret
     exact ⟨zX, zD⟩
   rw [if_pos c4] at H
   have c4b0 := decide_eq_true c4
   clear c4
   by_cases c5 : 0 ≤ x3_1
   rotate_left
   · rw [if_neg c5] at H
     exact absurd H (by simp)
   rw [if_pos c5] at H
   have c5b0 := decide_eq_true c5
   clear c5
   replace H := Option.bind_eq_some_iff.mp H
   obtain ⟨t339, A60, H⟩ := H
   try dsimp only at H
   have A6 := zk A60
   clear A60
   by_cases c7 : t339 = true
   rotate_left
   · replace c7 := Bool.eq_false_iff.mpr c7
     subst c7
     have H1 : (some false) = some r := by rw [if_neg (show ¬ (false = true) by decide)] at H; exact H
     clear H
     have H := H1
     clear H1
     obtain rfl := Option.some.inj H
     have p338 : 0 ≤ (x3_1 : Int) := zo (by assumption)
     have q338 : x3_1 < (l0.length : Int) := zo (by assumption)
     obtain ⟨ad338, e338, hx338_0⟩ := Kd.at_int HR0.out x3_1 p338 q338
     cases e338
     replace p338 := eq_true p338
     replace q338 := eq_true q338
     go_wp2_with (first | (go_at_call 154; (with_reducible refine (spec_l1In.calls (rd l0 x3_1) 1 (l0.length : Int) false _ A6.out).mono ?_); rintro e w' ⟨rfl, ⟨nd, rfl⟩⟩; (try first | exact ⟨rfl, _, World.drewN_drewN _ _ _⟩ | exact ⟨rfl, _, Eq.trans (World.drewN_drewN _ _ _) (congrArg (World.drewN _) (Nat.add_assoc _ _ _))⟩)))
     repeat (go_quiet (first | (go_at_call 154; (with_reducible refine (spec_l1In.calls (rd l0 x3_1) 1 (l0.length : Int) false _ A6.out).mono ?_); rintro e w' ⟨rfl, ⟨nd, rfl⟩⟩; (try first | exact ⟨rfl, _, World.drewN_drewN _ _ _⟩ | exact ⟨rfl, _, Eq.trans (World.drewN_drewN _ _ _) (congrArg (World.drewN _) (Nat.add_assoc _ _ _))⟩))); try go_wp2_with (first | (go_at_call 154; (with_reducible refine (spec_l1In.calls (rd l0 x3_1) 1 (l0.length : Int) false _ A6.out).mono ?_); rintro e w' ⟨rfl, ⟨nd, rfl⟩⟩; (try first | exact ⟨rfl, _, World.drewN_drewN _ _ _⟩ | exact ⟨rfl, _, Eq.trans (World.drewN_drewN _ _ _) (congrArg (World.drewN _) (Nat.add_assoc _ _ _))⟩))))
     go_ret
     exact ⟨zX, zD⟩
   subst c7
   have H1 : (if x3_1 ≤ (l0.length : Int) then ((spec_l1Has.f k1 (l0.take (x3_1 : Int).toNat) (rd l0 x3_1)).bind fun t345 => (if t345 = true then (some false) else (spec_l2Order.l0 k1 l0 (wrap64 (x3_1 + 1))))) else (none)) = some r := by rw [if_pos rfl] at H; exact H
   clear H
   have H := H1
   clear H1
   have c8b0 := eq_true (zo (by assumption) : 0 ≤ x3_1)
   by_cases c9 : x3_1 ≤ (l0.length : Int)
   rotate_left
   · rw [if_neg c9] at H
     exact absurd H (by simp)
   rw [if_pos c9] at H
   have c9b0 := eq_true c9
   have c9b1 := decide_eq_true c9
   clear c9
   obtain ⟨y340, hy340⟩ : ∃ y_ : List Int, y_ = (l0.take (x3_1 : Int).toNat) := ⟨_, rfl⟩
   rw [← hy340] at H
   try rw [zO y340] at H
   try dsimp only at H
   have Ny340 := zk hy340
   clear hy340
   replace H := Option.bind_eq_some_iff.mp H
   obtain ⟨t345, A100, H⟩ := H
   try dsimp only at H
   have A10 := zk A100
   clear A100
   by_cases c11 : t345 = true
   rotate_left
   · replace c11 := Bool.eq_false_iff.mpr c11
     subst c11
     have H1 : (spec_l2Order.l0 k1 l0 (wrap64 (x3_1 + 1))) = some r := by rw [if_neg (show ¬ (false = true) by decide)] at H; exact H
     clear H
     have H := H1
     clear H1
     have H' := zk H
     clear H
     have p338 : 0 ≤ (x3_1 : Int) := zo (by assumption)
     have q338 : x3_1 < (l0.length : Int) := zo (by assumption)
     obtain ⟨ad338, e338, hx338_0⟩ := Kd.at_int HR0.out x3_1 p338 q338
     cases e338
     replace p338 := eq_true p338
     replace q338 := eq_true q338
     go_wp2_with (first | (go_at_call 154; (with_reducible refine (spec_l1In.calls (rd l0 x3_1) 1 (l0.length : Int) true _ A6.out).mono ?_); rintro e w' ⟨rfl, ⟨nd, rfl⟩⟩; (try first | exact ⟨rfl, _, World.drewN_drewN _ _ _⟩ | exact ⟨rfl, _, Eq.trans (World.drewN_drewN _ _ _) (congrArg (World.drewN _) (Nat.add_assoc _ _ _))⟩); have q13 : (x3_1 : Int) ≤ ((l0.length : Int) : Int) := zo (by assumption); obtain ⟨i013, hi013, _, hsz13, _⟩ := info_parts info3; have hroom13 : l0.length ≤ c0 := HC0.out; have hC13 : Kd.C (Kd.int .i64) _ (some ad338) l0.length l0 := HR0.out; have hcut13 := cut_to (P := Try.prog) 22 3 .i64 Try.underlying22 hi013 (some ad338) l0.length c0 x3_1 (zo (by assumption)) q13 hroom13; have hr13 := Kd.C_take (m := (x3_1 : Int).toNat) hC13 (by omega); have hy13 : y340.length = (x3_1 : Int).toNat := (by rw [Ny340.out, List.length_take]; omega); rw [← Ny340.out] at hr13; rw [← hy13] at hcut13; have HR343 := zk hr13; have HC343 := zk (show y340.length ≤ c0 from by omega); clear hr13 hC13 hroom13 hi013 hsz13; have KY13 := zk hy13; clear hy13; replace q13 := eq_true q13; have p344 : 0 ≤ (x3_1 : Int) := zo (by assumption); have q344 : x3_1 < (l0.length : Int) := zo (by assumption); obtain ⟨ad344, e344, hx344_0⟩ := Kd.at_int HR0.out x3_1 p344 q344; obtain rfl : ad338 = ad344 := (by injection e344); replace p344 := eq_true p344; replace q344 := eq_true q344) | (go_at_call 244; (with_reducible refine (spec_l1Has.calls k1 _ _ y340 (rd l0 x3_1) false _ ?side1 ?side2 A10.out).mono ?_); (case side1 => exact zC HR343.out); (case side2 => exact HC343.out); rintro e w' ⟨rfl, ⟨nd, rfl⟩⟩; (try first | exact ⟨rfl, _, World.drewN_drewN _ _ _⟩ | exact ⟨rfl, _, Eq.trans (World.drewN_drewN _ _ _) (congrArg (World.drewN _) (Nat.add_assoc _ _ _))⟩)))
     repeat (go_quiet (first | (go_at_call 154; (with_reducible refine (spec_l1In.calls (rd l0 x3_1) 1 (l0.length : Int) true _ A6.out).mono ?_); rintro e w' ⟨rfl, ⟨nd, rfl⟩⟩; (try first | exact ⟨rfl, _, World.drewN_drewN _ _ _⟩ | exact ⟨rfl, _, Eq.trans (World.drewN_drewN _ _ _) (congrArg (World.drewN _) (Nat.add_assoc _ _ _))⟩); have q13 : (x3_1 : Int) ≤ ((l0.length : Int) : Int) := zo (by assumption); obtain ⟨i013, hi013, _, hsz13, _⟩ := info_parts info3; have hroom13 : l0.length ≤ c0 := HC0.out; have hC13 : Kd.C (Kd.int .i64) _ (some ad338) l0.length l0 := HR0.out; have hcut13 := cut_to (P := Try.prog) 22 3 .i64 Try.underlying22 hi013 (some ad338) l0.length c0 x3_1 (zo (by assumption)) q13 hroom13; have hr13 := Kd.C_take (m := (x3_1 : Int).toNat) hC13 (by omega); have hy13 : y340.length = (x3_1 : Int).toNat := (by rw [Ny340.out, List.length_take]; omega); rw [← Ny340.out] at hr13; rw [← hy13] at hcut13; have HR343 := zk hr13; have HC343 := zk (show y340.length ≤ c0 from by omega); clear hr13 hC13 hroom13 hi013 hsz13; have KY13 := zk hy13; clear hy13; replace q13 := eq_true q13; have p344 : 0 ≤ (x3_1 : Int) := zo (by assumption); have q344 : x3_1 < (l0.length : Int) := zo (by assumption); obtain ⟨ad344, e344, hx344_0⟩ := Kd.at_int HR0.out x3_1 p344 q344; obtain rfl : ad338 = ad344 := (by injection e344); replace p344 := eq_true p344; replace q344 := eq_true q344) | (go_at_call 244; (with_reducible refine (spec_l1Has.calls k1 _ _ y340 (rd l0 x3_1) false _ ?side1 ?side2 A10.out).mono ?_); (case side1 => exact zC HR343.out); (case side2 => exact HC343.out); rintro e w' ⟨rfl, ⟨nd, rfl⟩⟩; (try first | exact ⟨rfl, _, World.drewN_drewN _ _ _⟩ | exact ⟨rfl, _, Eq.trans (World.drewN_drewN _ _ _) (congrArg (World.drewN _) (Nat.add_assoc _ _ _))⟩))); try go_wp2_with (first | (go_at_call 154; (with_reducible refine (spec_l1In.calls (rd l0 x3_1) 1 (l0.length : Int) true _ A6.out).mono ?_); rintro e w' ⟨rfl, ⟨nd, rfl⟩⟩; (try first | exact ⟨rfl, _, World.drewN_drewN _ _ _⟩ | exact ⟨rfl, _, Eq.trans (World.drewN_drewN _ _ _) (congrArg (World.drewN _) (Nat.add_assoc _ _ _))⟩); have q13 : (x3_1 : Int) ≤ ((l0.length : Int) : Int) := zo (by assumption); obtain ⟨i013, hi013, _, hsz13, _⟩ := info_parts info3; have hroom13 : l0.length ≤ c0 := HC0.out; have hC13 : Kd.C (Kd.int .i64) _ (some ad338) l0.length l0 := HR0.out; have hcut13 := cut_to (P := Try.prog) 22 3 .i64 Try.underlying22 hi013 (some ad338) l0.length c0 x3_1 (zo (by assumption)) q13 hroom13; have hr13 := Kd.C_take (m := (x3_1 : Int).toNat) hC13 (by omega); have hy13 : y340.length = (x3_1 : Int).toNat := (by rw [Ny340.out, List.length_take]; omega); rw [← Ny340.out] at hr13; rw [← hy13] at hcut13; have HR343 := zk hr13; have HC343 := zk (show y340.length ≤ c0 from by omega); clear hr13 hC13 hroom13 hi013 hsz13; have KY13 := zk hy13; clear hy13; replace q13 := eq_true q13; have p344 : 0 ≤ (x3_1 : Int) := zo (by assumption); have q344 : x3_1 < (l0.length : Int) := zo (by assumption); obtain ⟨ad344, e344, hx344_0⟩ := Kd.at_int HR0.out x3_1 p344 q344; obtain rfl : ad338 = ad344 := (by injection e344); replace p344 := eq_true p344; replace q344 := eq_true q344) | (go_at_call 244; (with_reducible refine (spec_l1Has.calls k1 _ _ y340 (rd l0 x3_1) false _ ?side1 ?side2 A10.out).mono ?_); (case side1 => exact zC HR343.out); (case side2 => exact HC343.out); rintro e w' ⟨rfl, ⟨nd, rfl⟩⟩; (try first | exact ⟨rfl, _, World.drewN_drewN _ _ _⟩ | exact ⟨rfl, _, Eq.trans (World.drewN_drewN _ _ _) (congrArg (World.drewN _) (Nat.add_assoc _ _ _))⟩))))
     go_roundg k1
     case measure => have := HK1.out; omega
     case rel => exact ⟨(wrap64 (x3_1 + 1)), (by first | rfl | (simp; done) | (simp [*]; done)), H', ⟨by have := HK1.out; omega⟩, zD⟩
   subst c11
   have H1 : (some false) = some r := by rw [if_pos rfl] at H; exact H
   clear H
   have H := H1
   clear H1
   obtain rfl := Option.some.inj H
   have p338 : 0 ≤ (x3_1 : Int) := zo (by assumption)
   have q338 : x3_1 < (l0.length : Int) := zo (by assumption)
   obtain ⟨ad338, e338, hx338_0⟩ := Kd.at_int HR0.out x3_1 p338 q338
   cases e338
   replace p338 := eq_true p338
   replace q338 := eq_true q338
   go_wp2_with (first | (go_at_call 154; (with_reducible refine (spec_l1In.calls (rd l0 x3_1) 1 (l0.length : Int) true _ A6.out).mono ?_); rintro e w' ⟨rfl, ⟨nd, rfl⟩⟩; (try first | exact ⟨rfl, _, World.drewN_drewN _ _ _⟩ | exact ⟨rfl, _, Eq.trans (World.drewN_drewN _ _ _) (congrArg (World.drewN _) (Nat.add_assoc _ _ _))⟩); have q12 : (x3_1 : Int) ≤ ((l0.length : Int) : Int) := zo (by assumption); obtain ⟨i012, hi012, _, hsz12, _⟩ := info_parts info3; have hroom12 : l0.length ≤ c0 := HC0.out; have hC12 : Kd.C (Kd.int .i64) _ (some ad338) l0.length l0 := HR0.out; have hcut12 := cut_to (P := Try.prog) 22 3 .i64 Try.underlying22 hi012 (some ad338) l0.length c0 x3_1 (zo (by assumption)) q12 hroom12; have hr12 := Kd.C_take (m := (x3_1 : Int).toNat) hC12 (by omega); have hy12 : y340.length = (x3_1 : Int).toNat := (by rw [Ny340.out, List.length_take]; omega); rw [← Ny340.out] at hr12; rw [← hy12] at hcut12; have HR343 := zk hr12; have HC343 := zk (show y340.length ≤ c0 from by omega); clear hr12 hC12 hroom12 hi012 hsz12; have KY12 := zk hy12; clear hy12; replace q12 := eq_true q12; have p344 : 0 ≤ (x3_1 : Int) := zo (by assumption); have q344 : x3_1 < (l0.length : Int) := zo (by assumption); obtain ⟨ad344, e344, hx344_0⟩ := Kd.at_int HR0.out x3_1 p344 q344; obtain rfl : ad338 = ad344 := (by injection e344); replace p344 := eq_true p344; replace q344 := eq_true q344) | (go_at_call 244; (with_reducible refine (spec_l1Has.calls k1 _ _ y340 (rd l0 x3_1) true _ ?side1 ?side2 A10.out).mono ?_); (case side1 => exact zC HR343.out); (case side2 => exact HC343.out); rintro e w' ⟨rfl, ⟨nd, rfl⟩⟩; (try first | exact ⟨rfl, _, World.drewN_drewN _ _ _⟩ | exact ⟨rfl, _, Eq.trans (World.drewN_drewN _ _ _) (congrArg (World.drewN _) (Nat.add_assoc _ _ _))⟩)))
   repeat (go_quiet (first | (go_at_call 154; (with_reducible refine (spec_l1In.calls (rd l0 x3_1) 1 (l0.length : Int) true _ A6.out).mono ?_); rintro e w' ⟨rfl, ⟨nd, rfl⟩⟩; (try first | exact ⟨rfl, _, World.drewN_drewN _ _ _⟩ | exact ⟨rfl, _, Eq.trans (World.drewN_drewN _ _ _) (congrArg (World.drewN _) (Nat.add_assoc _ _ _))⟩); have q12 : (x3_1 : Int) ≤ ((l0.length : Int) : Int) := zo (by assumption); obtain ⟨i012, hi012, _, hsz12, _⟩ := info_parts info3; have hroom12 : l0.length ≤ c0 := HC0.out; have hC12 : Kd.C (Kd.int .i64) _ (some ad338) l0.length l0 := HR0.out; have hcut12 := cut_to (P := Try.prog) 22 3 .i64 Try.underlying22 hi012 (some ad338) l0.length c0 x3_1 (zo (by assumption)) q12 hroom12; have hr12 := Kd.C_take (m := (x3_1 : Int).toNat) hC12 (by omega); have hy12 : y340.length = (x3_1 : Int).toNat := (by rw [Ny340.out, List.length_take]; omega); rw [← Ny340.out] at hr12; rw [← hy12] at hcut12; have HR343 := zk hr12; have HC343 := zk (show y340.length ≤ c0 from by omega); clear hr12 hC12 hroom12 hi012 hsz12; have KY12 := zk hy12; clear hy12; replace q12 := eq_true q12; have p344 : 0 ≤ (x3_1 : Int) := zo (by assumption); have q344 : x3_1 < (l0.length : Int) := zo (by assumption); obtain ⟨ad344, e344, hx344_0⟩ := Kd.at_int HR0.out x3_1 p344 q344; obtain rfl : ad338 = ad344 := (by injection e344); replace p344 := eq_true p344; replace q344 := eq_true q344) | (go_at_call 244; (with_reducible refine (spec_l1Has.calls k1 _ _ y340 (rd l0 x3_1) true _ ?side1 ?side2 A10.out).mono ?_); (case side1 => exact zC HR343.out); (case side2 => exact HC343.out); rintro e w' ⟨rfl, ⟨nd, rfl⟩⟩; (try first | exact ⟨rfl, _, World.drewN_drewN _ _ _⟩ | exact ⟨rfl, _, Eq.trans (World.drewN_drewN _ _ _) (congrArg (World.drewN _) (Nat.add_assoc _ _ _))⟩))); try go_wp2_with (first | (go_at_call 154; (with_reducible refine (spec_l1In.calls (rd l0 x3_1) 1 (l0.length : Int) true _ A6.out).mono ?_); rintro e w' ⟨rfl, ⟨nd, rfl⟩⟩; (try first | exact ⟨rfl, _, World.drewN_drewN _ _ _⟩ | exact ⟨rfl, _, Eq.trans (World.drewN_drewN _ _ _) (congrArg (World.drewN _) (Nat.add_assoc _ _ _))⟩); have q12 : (x3_1 : Int) ≤ ((l0.length : Int) : Int) := zo (by assumption); obtain ⟨i012, hi012, _, hsz12, _⟩ := info_parts info3; have hroom12 : l0.length ≤ c0 := HC0.out; have hC12 : Kd.C (Kd.int .i64) _ (some ad338) l0.length l0 := HR0.out; have hcut12 := cut_to (P := Try.prog) 22 3 .i64 Try.underlying22 hi012 (some ad338) l0.length c0 x3_1 (zo (by assumption)) q12 hroom12; have hr12 := Kd.C_take (m := (x3_1 : Int).toNat) hC12 (by omega); have hy12 : y340.length = (x3_1 : Int).toNat := (by rw [Ny340.out, List.length_take]; omega); rw [← Ny340.out] at hr12; rw [← hy12] at hcut12; have HR343 := zk hr12; have HC343 := zk (show y340.length ≤ c0 from by omega); clear hr12 hC12 hroom12 hi012 hsz12; have KY12 := zk hy12; clear hy12; replace q12 := eq_true q12; have p344 : 0 ≤ (x3_1 : Int) := zo (by assumption); have q344 : x3_1 < (l0.length : Int) := zo (by assumption); obtain ⟨ad344, e344, hx344_0⟩ := Kd.at_int HR0.out x3_1 p344 q344; obtain rfl : ad338 = ad344 := (by injection e344); replace p344 := eq_true p344; replace q344 := eq_true q344) | (go_at_call 244; (with_reducible refine (spec_l1Has.calls k1 _ _ y340 (rd l0 x3_1) true _ ?side1 ?side2 A10.out).mono ?_); (case side1 => exact zC HR343.out); (case side2 => exact HC343.out); rintro e w' ⟨rfl, ⟨nd, rfl⟩⟩; (try first | exact ⟨rfl, _, World.drewN_drewN _ _ _⟩ | exact ⟨rfl, _, Eq.trans (World.drewN_drewN _ _ _) (congrArg (World.drewN _) (Nat.add_assoc _ _ _))⟩))))
   go_ret
   exact ⟨zX, zD⟩

end Go.Proofs.Ytlkddcabjcejdaa.MFnAvoiding
