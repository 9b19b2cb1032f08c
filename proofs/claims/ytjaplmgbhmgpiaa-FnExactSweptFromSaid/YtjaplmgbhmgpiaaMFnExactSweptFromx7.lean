/- The functions that FnExactSweptFrom comes to, with a walk for each. Made by this session's own program (wip/tools/mk.py), in the form of the kit's print; walks named in NOTES.md were written by hand. -/
import Derived.Test.YtjaplmgbhmgpiaaMFnExactSweptFromx0
import Derived.Test.YtjaplmgbhmgpiaaMFnExactSweptFromx1
import Derived.Test.YtjaplmgbhmgpiaaMFnExactSweptFromx4
import Derived.Test.YtjaplmgbhmgpiaaMFnExactSweptFromx5
import Derived.Test.YtjaplmgbhmgpiaaMFnExactSweptFromx6
namespace Go.Proofs.Ytjaplmgbhmgpiaa.MFnExactSweptFrom
open Go.RowKit Go.Proofs.YtjaplmgbhmgpiaaW.PrintWords Go.Proofs.YtjaplmgbhmgpiaaW.PrintLast Go.Proofs.YtjaplmgbhmgpiaaW.PrintMore
attribute [local go_sem] max2_int min2_int max_two min_two max_three min_three max_four min_four   -- for this text's walks alone
set_option linter.unusedVariables false
set_option linter.unusedSimpArgs false

/-! ### impl_SweptFrom: function 33 -/
section
open Go.Proofs.Ytjaplmgbhmgpiaa.Base
set_option maxHeartbeats 8000000 in
set_option maxRecDepth 100000 in
theorem indexFunc_sw (c1_ : Value) (bad : List Int → Bool) (rows : List (List Int)) (A0 : Option Addr) (c0 : Nat) (w : World) (hr0 : Kd.C (Kd.slice 3 (Kd.int .i64)) w A0 rows.length rows) (hc0 : rows.length ≤ c0) (hlen : rows.length ≤ 4611686018427387904)
    (hcb : ∀ W A c xs, Below w.heap.size w W → xs ∈ rows → Kd.C (Kd.int .i64) W A xs.length xs → xs.length ≤ c → Calls Try.prog 77 #[.slice A xs.length c, c1_] W fun e w' => e = .returned (.bool (bad xs)) ∧ Below W.heap.size W w') :
    Calls Try.prog 115 #[.slice A0 rows.length c0, .func (.func 77) #[] #[c1_]] w fun e w' => e = .returned (.int .i64 (idxGo bad rows 0)) ∧ Below w.heap.size w w' := by
  have HR0 := Aside0.mk hr0
  have HCB := Aside0.mk hcb
  obtain ⟨R, hR⟩ : ∃ R, idxGo bad rows 0 = R := ⟨_, rfl⟩
  rw [hR]
  have HP := Aside0.mk hR
  clear hR hr0 hcb
  go_enter Try.func115, Try.ntmps115
  go_wp2
  go_loopg [8] rows.length (fun kq v8 wr => ∃ (pre suf : List (List Int)), v8 = .int .i64 (pre.length : Int) ∧ kq = suf.length ∧ Aside0 (rows = pre ++ suf) ∧ Aside0 (idxGo bad suf (pre.length : Int) = R) ∧ Aside0 (Below w.heap.size w wr))
  case atStart => exact ⟨[], rows, rfl, rfl, ⟨rfl⟩, HP, ⟨Below.refl _ _⟩⟩
  case round =>
    clear HP
    obtain ⟨pre, suf, rfl, rfl, HL, HP, HB⟩ := hrel
    cases suf with
    | nil =>
      have hl : rows.length = pre.length := by rw [HL.out]; simp
      have hg : ¬ ((pre.length : Int) < (rows.length : Int)) := by omega
      have hgb : decide ((pre.length : Int) < (rows.length : Int)) = false := decide_eq_false hg
      have e := HP.out
      simp only [idxGo] at e
      subst e
      clear hl
      go_wp2
      go_ret
      exact ⟨rfl, HB.out⟩
    | cons x t =>
      have hl : rows.length = pre.length + (t.length + 1) := by rw [HL.out]; simp
      have hg : (pre.length : Int) < (rows.length : Int) := by omega
      have hgb : decide ((pre.length : Int) < (rows.length : Int)) = true := decide_eq_true hg
      have hrd : rows.getD pre.length [] = x := by rw [HL.out]; simp
      obtain ⟨ad, A1, c1, e1, hx, hl1, hi1⟩ := row_at HR0.out (pre.length : Int) (by omega) hg
      cases e1
      rw [show ((pre.length : Int)).toNat = pre.length by omega, hrd] at hx hl1 hi1
      replace hx := pw_cell_below_ HB.out hx
      have HI1 := Aside0.mk (Kd.C_below hi1 HB.out)
      have HL1 := Aside0.mk hl1
      have HM := Aside0.mk (show x ∈ rows by rw [HL.out]; simp)
      have hb1 : (pre.length : Int) ≤ 4611686018427387904 := by omega
      clear hl hrd hi1 hl1
      cases hbx : bad x with
      | true =>
        have H := HCB.out wr A1 c1 x HB.out HM.out HI1.out HL1.out
        rw [hbx] at H
        have HH := Aside0.mk H
        have e := HP.out
        simp only [idxGo, hbx, if_true] at e
        subst e
        clear H hbx
        go_wp2_with (go_at_call 77; refine HH.out.mono ?_; rintro e_ w2 ⟨rfl, hb2⟩; have HX := Aside0.mk hb2; clear hb2)
        go_ret
        exact ⟨rfl, below_step HB.out HX.out⟩
      | false =>
        have H := HCB.out wr A1 c1 x HB.out HM.out HI1.out HL1.out
        rw [hbx] at H
        have HH := Aside0.mk H
        have e := HP.out
        simp only [idxGo, hbx, Bool.false_eq_true, if_false] at e
        have HP2 := Aside0.mk e
        clear H hbx e
        go_wp2_with (go_at_call 77; refine HH.out.mono ?_; rintro e_ w2 ⟨rfl, hb2⟩; have HX := Aside0.mk hb2; clear hb2)
        go_roundg t.length
        case measure => simp
        case rel => exact ⟨pre ++ [x], t, by simp, rfl, ⟨by rw [HL.out]; simp⟩, ⟨by have := HP2.out; simpa using this⟩, ⟨below_step HB.out HX.out⟩⟩
set_option maxHeartbeats 8000000 in
set_option maxRecDepth 100000 in
theorem containsFunc_sw (c1_ : Value) (bad : List Int → Bool) (rows : List (List Int)) (A0 : Option Addr) (c0 : Nat) (w : World) (hr0 : Kd.C (Kd.slice 3 (Kd.int .i64)) w A0 rows.length rows) (hc0 : rows.length ≤ c0) (hlen : rows.length ≤ 4611686018427387904)
    (hcb : ∀ W A c xs, Below w.heap.size w W → xs ∈ rows → Kd.C (Kd.int .i64) W A xs.length xs → xs.length ≤ c → Calls Try.prog 77 #[.slice A xs.length c, c1_] W fun e w' => e = .returned (.bool (bad xs)) ∧ Below W.heap.size W w') :
    Calls Try.prog 109 #[.slice A0 rows.length c0, .func (.func 77) #[] #[c1_]] w fun e w' => e = .returned (.bool (rows.any bad)) ∧ Below w.heap.size w w' := by
  have H := indexFunc_sw c1_ bad rows A0 c0 w hr0 hc0 hlen hcb
  have hi := idxGo_any bad rows 0 (by omega)
  obtain ⟨R, hR⟩ : ∃ R, idxGo bad rows 0 = R := ⟨_, rfl⟩
  rw [hR] at H hi
  rw [← hi]
  have HH := Aside0.mk H
  clear H hi hR hcb hr0
  cases hd : decide (0 ≤ R) with
  | true =>
    have h0 : 0 ≤ R := of_decide_eq_true hd
    clear hd
    go_enter Try.func109, Try.ntmps109
    go_wp2_with (go_at_call 115; refine HH.out.mono ?_; rintro e_ w2 ⟨rfl, hb2⟩; have HX := Aside0.mk hb2; clear hb2)
    go_ret
    exact ⟨by simp [h0], HX.out⟩
  | false =>
    have h0 : ¬ 0 ≤ R := of_decide_eq_false hd
    clear hd
    go_enter Try.func109, Try.ntmps109
    go_wp2_with (go_at_call 115; refine HH.out.mono ?_; rintro e_ w2 ⟨rfl, hb2⟩; have HX := Aside0.mk hb2; clear hb2)
    go_ret
    exact ⟨by simp [h0], HX.out⟩
set_option maxHeartbeats 8000000 in
set_option maxRecDepth 100000 in
theorem deleteFunc_sw (c1_ : Value) (bad : List Int → Bool) (xs : List (List Int)) (w : World) (base g cap : Nat) (ok : Nat → Prop) (hS : Kd.S (Kd.slice 3 (Kd.int .i64)) 22 w base ok (.slice (some ⟨g, 0, none⟩) xs.length cap) xs) (hlen : xs.length ≤ 4611686018427387904)
    (hcb : ∀ W A c x, Fr (fun k => k = g) w W → x ∈ xs → Kd.C (Kd.int .i64) W A x.length x → x.length ≤ c → Calls Try.prog 77 #[.slice A x.length c, c1_] W fun e w' => e = .returned (.bool (bad x)) ∧ Below W.heap.size W w') :
    Calls Try.prog 75 #[.slice (some ⟨g, 0, none⟩) xs.length cap, .func (.func 77) #[] #[c1_]] w fun e w' => e = .returned (.slice (some ⟨g, 0, none⟩) (xs.filter (fun x => !bad x)).length cap) ∧ Kd.S (Kd.slice 3 (Kd.int .i64)) 22 w' base (fun _ => True) (.slice (some ⟨g, 0, none⟩) (xs.filter (fun x => !bad x)).length cap) (xs.filter (fun x => !bad x)) ∧ Fr (fun k => k = g) w w' := by
  have HI := Aside0.mk (indexFunc_sw c1_ bad xs (some ⟨g, 0, none⟩) cap w (Kd.S_reads' hS).2.2 (Kd.S_reads' hS).2.1 hlen (fun W A c x hb hx hC hc => hcb W A c x (Fr.of_below hb) hx hC hc))
  have HCB := Aside0.mk hcb
  have HS := Aside0.mk hS
  obtain ⟨R, hR⟩ : ∃ R, idxGo bad xs 0 = R := ⟨_, rfl⟩
  rw [hR] at HI
  have hi := idxGo_iff bad xs 0 (Int.le_refl _)
  rw [hR] at hi
  by_cases hneg : 0 ≤ R
  · obtain ⟨pre0, c0, suf0, hxs, hRe, hgood, hbad⟩ := idxGo_split bad xs 0 R (Int.le_refl _) hR hneg
    rw [Int.zero_add] at hRe
    obtain ⟨cs, ps, hblk, hbg, hcl, _, hnc, hcm, htk, hsnd, hV⟩ := S_open hS
    have hpl : ps.length = xs.length := by rw [← hsnd]; simp
    obtain ⟨pre1, suf1, hDI, hpre1⟩ := DI.start (bad := bad) (cap := cap) (cs := cs) (by rw [hsnd]; exact hxs) hcl (by omega) (by rw [hpl]; exact htk) hgood hbad
    have HV := Aside0.mk hV
    have HSND := Aside0.mk hsnd
    have HPL := Aside0.mk hpl
    have HBLK := Aside0.mk hblk
    have HDI := Aside0.mk hDI
    have HP1 := Aside0.mk hpre1
    have HCM := Aside0.mk (And.intro hbg (And.intro hnc hcm))
    have hpre : (pre0.length : Int) ≤ 4611686018427387903 := by have := congrArg List.length hxs; simp at this; omega
    have hR1 : ((pre0.length : Int) == -1) = false := by simp
    have hw1 : wrap64 ((pre0.length : Int) + 1) = (pre0.length : Int) + 1 := by unfold wrap64; omega
    subst hRe
    clear hS hcb hR hi hneg hgood hbad hblk htk hsnd hV hDI hpl hcm hxs hcl hpre1 hbg hnc
    go_enter Try.func75, Try.ntmps75
    go_wp2_with (go_at_call 115; refine HI.out.mono ?_; rintro e_ w2 ⟨rfl, hb2⟩; have HB2 := Aside0.mk hb2; clear hb2)
    go_loopg [5, 6] suf1.length (fun kq v5 v6 wr => ∃ (pre suf : List (Value × List Int)) (cs : List Value) (i : Nat), v5 = .int .i64 (i : Int) ∧ v6 = .int .i64 (pre.length : Int) ∧ kq = suf.length ∧ Aside0 (wr.heap[g]? = some (.cells cs.toArray 22 (0, 0))) ∧ Aside0 (DI bad cap ps cs pre suf i) ∧ Aside0 (Fr (fun k => k = g) w wr))
    case atStart =>
      refine ⟨pre1, suf1, cs, pre0.length, rfl, ?_, rfl, ⟨blk_fr HBLK.out (Fr.of_below (S := fun _ => False) HB2.out) (fun h => h)⟩, HDI, ⟨Fr.of_below HB2.out⟩⟩
      rw [HP1.out]; simp
    case round =>
      clear HI HB2 HDI HP1 hw1 hR1
      obtain ⟨pre, suf, cs, i, rfl, rfl, rfl, HBK, HD, HF⟩ := hrel
      have hbd := HD.out.bound
      have hpl := HPL.out
      have hlt := HD.out.lt
      have hcl := HD.out.len
      obtain ⟨_, hnc, hcm⟩ := HCM.out
      cases suf with
      | nil =>
        simp only [List.length_nil, Nat.add_zero] at hbd
        have hg : ¬ ((pre.length : Int) < (xs.length : Int)) := by omega
        have hgb : decide ((pre.length : Int) < (xs.length : Int)) = false := decide_eq_false hg
        have hcells : ∀ t, t < xs.length - i → (wr.cell? ⟨g, i + t, none⟩).isSome = true := fun t ht => by
          rw [blk_cell HBK.out]
          have : i + t < cs.length := by omega
          simp [List.getElem?_eq_getElem this]
        have hcl0 := fun ty => Lib.run_clear_slice (P := Try.prog) wr 40 22 ty (.slice none 0 0) Try.underlying40 Try.zeroValue22 rfl rfl g i (xs.length - i) (cap - i) (by omega) hcells (fun t _ => blk_frozen HBK.out _)
        obtain ⟨cur, hb2, hs2, hl2⟩ := setCells_row (List.replicate (xs.length - i) (.slice none 0 0)) i wr cs.toArray HBK.out (by simp; omega)
        have hFr : Fr (fun k => k = g) w (wr.setCells g i (List.replicate (xs.length - i) (.slice none 0 0))) := HF.out.trans (Fr.setCells (S := fun k => k = g) rfl _ _ _)
        have hkeep : (ps.filter (fun p => !bad p.2)).map (·.2) = xs.filter (fun x => !bad x) := by
          rw [← HSND.out, List.filter_map]; rfl
        have hall := HD.out.all
        rw [List.append_nil] at hall
        have hki := HD.out.ki
        have hhd := HD.out.head
        rw [← hall] at hki hhd
        have hil : (xs.filter (fun x => !bad x)).length = i := by rw [← hkeep, List.length_map, hki]
        have hcur : cur.toList.take i = (ps.filter (fun p => !bad p.2)).map (·.1) := by
          rw [hl2, List.take_append_of_le_length (by simp; omega), List.take_append_of_le_length (by simp; omega)]
          rw [← hhd, List.take_take, Nat.min_self]
        have hsz : cur.toList.length = cap := by rw [Array.length_toList, hs2]; simpa using hcl
        have hclose := S_close (base := base) (cs := cur.toList) (by simpa using hb2) HCM.out.1 (show i ≤ cur.toList.length by omega) (by rw [hsz]; exact hcm) hcur ((HV.out.fr hFr).sub List.filter_sublist)
        rw [hkeep, hsz] at hclose
        have HIL := Aside0.mk hil
        have HX := Aside0.mk (And.intro hclose hFr)
        have hic : i < cap := by omega
        have hic2 : ¬ cap = i := by omega
        have hii : (i : Int) ≤ (xs.length : Int) := by omega
        clear hclose hFr hkeep hall hki hhd hil hcur hsz hb2 hs2 hl2 hcells hlt hbd hcl hpl
        go_wp2
        go_ret
        exact ⟨by rw [HIL.out]; rfl, by rw [HIL.out]; exact HX.out.1, HX.out.2⟩
      | cons p t =>
        simp only [List.length_cons] at hbd
        have hg : (pre.length : Int) < (xs.length : Int) := by omega
        have hgb : decide ((pre.length : Int) < (xs.length : Int)) = true := decide_eq_true hg
        obtain ⟨v, x⟩ := p
        have hpm : (v, x) ∈ ps := by rw [HD.out.all]; simp
        obtain ⟨A, c, e⟩ := Kd.R_slice (HV.out.row _ hpm)
        simp only at e
        subst e
        have hR := (HV.out.fr HF.out).row _ hpm
        have hcell : wr.cell? ⟨g, pre.length, none⟩ = some (.slice A x.length c) := by rw [blk_cell HBK.out]; simpa using HD.out.cell
        have hxm : x ∈ xs := by rw [← HSND.out]; exact List.mem_map_of_mem (f := (·.2)) hpm
        have H := HCB.out wr A c x HF.out hxm (Kd.R_reads' hR).2.2 (Kd.R_reads' hR).2.1
        have hb1 : (pre.length : Int) ≤ 4611686018427387904 := by omega
        have hib : (i : Int) ≤ 4611686018427387904 := by omega
        have hix : (i : Int) < (xs.length : Int) := by omega
        have hixn : i < xs.length := by omega
        have hold : ∃ old, cs[i]? = some old := ⟨cs[i]'(by omega), List.getElem?_eq_getElem _⟩
        obtain ⟨old, hold⟩ := hold
        have HOLD := Aside0.mk hold
        clear hR hbd hpl hlt hcl hold hxm hpm
        cases hbx : bad x with
        | true =>
          rw [hbx] at H
          have HH := Aside0.mk H
          have HBX := Aside0.mk hbx
          clear H hbx
          go_wp2_with (go_at_call 77; refine HH.out.mono ?_; rintro e_ w6 ⟨rfl, hb6⟩; have HX := Aside0.mk hb6; clear hb6)
          go_roundg t.length
          case measure => simp
          case rel => exact ⟨pre ++ [(.slice A x.length c, x)], t, cs, i, rfl, by simp [wrap64], rfl, ⟨blk_below HBK.out HX.out⟩, ⟨HD.out.skip HBX.out⟩, ⟨HF.out.trans (Fr.of_below HX.out)⟩⟩
        | false =>
          rw [hbx] at H
          have HH := Aside0.mk H
          have HBX := Aside0.mk hbx
          clear H hbx
          go_wp2_with (go_at_call 77; refine HH.out.mono ?_; rintro e_ w6 ⟨rfl, hb6⟩; have HX := Aside0.mk hb6; have ci := (blk_cell (blk_below HBK.out hb6) i).trans (show cs.toArray[i]? = some old by simpa using HOLD.out); have fi := blk_frozen (blk_below HBK.out hb6) i; clear hb6)
          go_roundg t.length
          case measure => simp
          case rel => exact ⟨pre ++ [(.slice A x.length c, x)], t, cs.set i (.slice A x.length c), i + 1, by simp [wrap64], by simp [wrap64], rfl, ⟨by have := blk_set (blk_below HBK.out HX.out) i (.slice A x.length c); simpa using this⟩, ⟨HD.out.keep HBX.out⟩, ⟨(HF.out.trans (Fr.of_below HX.out)).trans (Fr.set (S := fun k => k = g) rfl _ _)⟩⟩
  · have hn : xs.any bad = false := by
      cases h : xs.any bad with
      | false => rfl
      | true => exact absurd (hi.2 h) hneg
    have hf : xs.filter (fun x => !bad x) = xs := by
      rw [List.filter_eq_self]
      intro x hx
      have := (List.any_eq_false.1 hn) x hx
      simpa using this
    have hm : R = -1 := by
      have key : ∀ (s : List (List Int)) (i : Int), (∀ x ∈ s, ¬ bad x = true) → idxGo bad s i = -1 := by
        intro s
        induction s with
        | nil => intro i _; rfl
        | cons c s ih =>
          intro i h
          simp only [idxGo]
          rw [if_neg (h c (by simp))]
          exact ih _ (fun x hx => h x (by simp [hx]))
      rw [← hR]; exact key xs 0 (List.any_eq_false.1 hn)
    subst hm
    rw [hf]
    clear hS hcb hR hi hneg hn hf
    go_enter Try.func75, Try.ntmps75
    go_wp2_with (go_at_call 115; refine HI.out.mono ?_; rintro e_ w2 ⟨rfl, hb2⟩; have HB2 := Aside0.mk hb2; clear hb2)
    go_ret
    exact ⟨rfl, Kd.S_mono (Kd.S_below HS.out HB2.out) (fun _ _ => trivial), Fr.of_below HB2.out⟩
set_option maxHeartbeats 8000000 in
set_option maxRecDepth 100000 in
theorem SweptFrom_cb (k : Nat) (l : List Int) (A0 : Option Addr) (c0 : Nat) (gl : Nat) (w0 W : World) (hb0 : Below w0.heap.size w0 W) (hgl : W.heap[gl]? = some (.cells #[.slice A0 l.length c0] 22 (0, 0))) (hl0 : Kd.C (Kd.int .i64) w0 A0 l.length l) (hc0 : l.length ≤ c0)
    (A : Option Addr) (c : Nat) (x t : List Int) (b : Bool) (ht : impl_sweep.f k x = some t) (he : slices_Equal_int_int.f k t l = some b) (hC : Kd.C (Kd.int .i64) W A x.length x) (hc : x.length ≤ c) :
    Calls Try.prog 77 #[.slice A x.length c, .pointer (some ⟨gl, 0, none⟩)] W fun e w' => e = .returned (.bool (!b)) ∧ Below W.heap.size W w' := by
  have HL := Aside0.mk hgl
  have HC := Aside0.mk hC
  have HT := Aside0.mk ht
  have HE := Aside0.mk he
  have HL0 := Aside0.mk hl0
  clear hgl hC ht he hl0
  go_enter Try.func77, Try.ntmps77
  go_wp2_with (fail)
  refine start_ (n := 6) (S := fun w' => w'.cell? ⟨gl, 0, none⟩ = some (.slice A0 l.length c0)) (ds := []) #[false, false, false, false, false, false] (by kernel_rfl) rfl rfl (cell_of_one HL.out) (fun hHeld => ?_)
  replace HL := Aside0.mk (blk_below HL.out (below_drew (Below.refl _ _)))
  replace HC := Aside0.mk (Kd.C_drew HC.out)
  replace hb0 := below_drew hb0
  have HSZ := Aside0.mk hb0.size
  have HW := Aside0.mk (below_drew (Below.refl W.heap.size W))
  generalize W.drew = w1 at HL HC hHeld hb0 HSZ HW ⊢
  have HB := Aside0.mk (Below.refl w1.heap.size w1)
  refine pure_ (i := 0) (N := some 4) (v := ?_) (a' := ?_) #[true, false, false, false, false, false] rfl rfl (by kernel_rfl) (fun _ _ _ h => h) (Or.inl ⟨by rfl, ?_⟩) ?_ ?_
  rotate_left
  · intro w'
    go_simp
    with_reducible rfl
  rotate_left
  · simp only [Act.put, List.setIfInBounds_toArray, List.set_cons_zero, List.set_cons_succ, i64_w, i32_w]
    rfl
  refine take_ (i := 2) (N := some 6) (v := ?_) (a' := ?_) #[true, false, true, false, false, false] rfl rfl (by kernel_rfl) (fun _ _ _ h => h) (Or.inl ⟨by rfl, ?_⟩) hHeld ?_ ?_
  rotate_left
  · intro w' s0
    go_simp
    with_reducible rfl
  rotate_left
  · simp only [Act.put, List.setIfInBounds_toArray, List.set_cons_zero, List.set_cons_succ, i64_w, i32_w]
    rfl
  refine one_ (i := 1) (N := some 5) #[true, true, true, false, false, false] rfl rfl (by kernel_rfl) (by decide) (fun K hK => ?_)
  refine goes_ Try.func79 (by kernel_rfl) rfl #[.slice A x.length c] (by rfl) rfl rfl (by simp only [List.map_toArray, List.map_cons, List.map_nil]; rfl) ?_
  with_reducible refine (impl_sweep.calls k A c x t _ (Kd.C_below HC.out HB.out) hc HT.out).mono ?_
  rintro e_ w2 ⟨v5, rfl, hR5, hb2⟩
  replace HB := Aside0.mk (below_step HB.out hb2)
  obtain ⟨A5, c5, e5⟩ := Kd.R_slice hR5
  subst e5
  have HR5 := Aside0.mk hR5
  clear hR5 hb2
  refine ⟨_, rfl, ?_⟩
  refine hK.out _ _ (cell_of_one (blk_below HL.out HB.out)) (fun hHeld => ?_)
  clear hK K
  refine norm_ (a' := ?_) ?_ ?_
  rotate_left
  · show Act.put _ (some 5) _ = _
    simp only [Act.put, List.setIfInBounds_toArray, List.set_cons_zero, List.set_cons_succ, i64_w, i32_w]
    rfl
  refine one_ (i := 3) (N := some 7) #[true, true, true, true, false, false] rfl rfl (by kernel_rfl) (by decide) (fun K hK => ?_)
  refine goes_ Try.func78 (by kernel_rfl) rfl #[.slice A5 t.length c5, .slice A0 l.length c0] (by rfl) rfl rfl (by simp only [List.map_toArray, List.map_cons, List.map_nil]; rfl) ?_
  with_reducible refine (slices_Equal_int_int.calls k A5 c5 t A0 c0 l b _ (Kd.R_reads' HR5.out).2.2 (Kd.R_reads' HR5.out).2.1 (Kd.C_below HL0.out (hb0.trans (Go.Proofs.Ytjaplmgbhmgpiaa.Base.below_below HB.out (show w0.heap.size ≤ w1.heap.size from HSZ.out)))) hc0 HE.out).mono ?_
  rintro e_ w3 ⟨rfl, q3, rfl⟩
  refine ⟨_, rfl, ?_⟩
  refine hK.out _ _ (by first | exact hHeld | exact cell_of_one (blk_drewN (blk_below HL.out HB.out) _)) (fun hHeld => ?_)
  clear hK K
  refine norm_ (a' := ?_) ?_ ?_
  rotate_left
  · show Act.put _ (some 7) _ = _
    simp only [Act.put, List.setIfInBounds_toArray, List.set_cons_zero, List.set_cons_succ, i64_w, i32_w]
    rfl
  refine pure_ (i := 4) (N := some 8) (v := ?_) (a' := ?_) #[true, true, true, true, true, false] rfl rfl (by kernel_rfl) (fun _ _ _ h => h) (Or.inl ⟨by rfl, ?_⟩) ?_ ?_
  rotate_left
  · intro w'
    go_simp
    with_reducible rfl
  rotate_left
  · simp only [Act.put, List.setIfInBounds_toArray, List.set_cons_zero, List.set_cons_succ, i64_w, i32_w]
    rfl
  refine pure_ (i := 5) (N := some 3) (v := ?_) (a' := ?_) #[true, true, true, true, true, true] rfl rfl (by kernel_rfl) (fun _ _ _ h => h) (Or.inl ⟨by rfl, ?_⟩) ?_ ?_
  rotate_left
  · intro w'
    go_simp
    with_reducible rfl
  rotate_left
  · simp only [Act.put, List.setIfInBounds_toArray, List.set_cons_zero, List.set_cons_succ, i64_w, i32_w]
    rfl
  refine done_ (by kernel_rfl) ?_
  try go_wp2
  go_ret
  exact ⟨rfl, pw_below_drewN (below_then HW.out HW.out.size HB.out) _⟩
def impl_SweptFrom.g (k : Nat) (l0 x : List Int) : Option Bool := (impl_sweep.f k x).bind fun t => slices_Equal_int_int.f k t l0
def impl_SweptFrom.f (k : Nat) (l0 : List Int) : Option (List (List Int) × Bool) := (impl_isOrder.f k l0).bind fun t => (if t = true then ((impl_allOrders.f k (l0.length : Int)).bind fun rows => (if 0 < rows.length ∧ rows.length ≤ 4611686018427387904 then ((keepM (impl_SweptFrom.g k l0) rows).bind fun r => some (r, true)) else none)) else (some (([] : List (List Int)), false)))
theorem impl_SweptFrom.mono : ∀ a0 k, LeO (impl_SweptFrom.f k a0) (impl_SweptFrom.f (k + 1) a0) := by
  intro a0 k
  unfold impl_SweptFrom.f
  refine LeO.bind (impl_isOrder.mono _ _) (fun _ => LeO.ite (LeO.bind (impl_allOrders.mono _ _) (fun _ => LeO.ite (LeO.bind (keepM_mono (fun c => ?_) _) (fun _ => LeO.refl _)) (LeO.refl _))) (LeO.refl _))
  unfold impl_SweptFrom.g
  exact LeO.bind (impl_sweep.mono _ _) (fun _ => slices_Equal_int_int.mono _ _ _)
set_option maxHeartbeats 8000000 in
set_option maxRecDepth 100000 in
theorem impl_SweptFrom.calls (k : Nat) (A0 : Option Addr) (c0 : Nat) (l0 : List Int) (r1 : List (List Int)) (r2 : Bool) (w : World) (hr0 : Kd.C (Kd.int .i64) w A0 l0.length l0) (hc0 : l0.length ≤ c0) (h : impl_SweptFrom.f k l0 = some (r1, r2)) :
    Calls Try.prog 33 #[.slice A0 l0.length c0] w fun e w' => ∃ v0_ : Value, e = .returned (.tuple #[v0_, .bool r2]) ∧ Kd.S (Kd.slice 3 (Kd.int .i64)) 22 w' w.heap.size (fun _ => True) v0_ r1 ∧ Below w.heap.size w w' := by
  unfold impl_SweptFrom.f at h
  have h2 := Option.bind_eq_some_iff.1 h
  clear h
  obtain ⟨t, ht, h⟩ := h2
  have HT := Aside0.mk ht
  have HR0 := Aside0.mk hr0
  have HBX := Aside0.mk (blk_new w (Obj.cells #[Value.slice A0 l0.length c0] 22))
  have cbx := cell_of_one HBX.out
  have hmf : ∀ (fn : Fn) (first cap : Array Value) (w : World), (Instr.makeFunc fn first cap).run Try.prog w = .ok (.func fn first cap) w := fun _ _ _ _ => rfl
  clear ht hr0
  cases t with
  | false =>
    rw [if_neg (by decide)] at h
    simp only [Option.some.injEq, Prod.mk.injEq] at h
    obtain ⟨rfl, rfl⟩ := h
    go_enter Try.func33, Try.ntmps33
    go_wp2_with (go_at_call 52; refine (impl_isOrder.calls k A0 c0 l0 false _ (Kd.C_alloc HR0.out _) hc0 HT.out).mono ?_; rintro e_ w2 ⟨rfl, ⟨nd, rfl⟩⟩)
    go_ret2
    exact ⟨_, rfl, Kd.S_nil _ _ _ _ _, pw_below_drewN (below_alloc (Below.refl _ _) _) _⟩
  | true =>
    rw [if_pos rfl] at h
    have h2 := Option.bind_eq_some_iff.1 h
    clear h
    obtain ⟨rows, ho, h⟩ := h2
    by_cases hq : 0 < rows.length ∧ rows.length ≤ 4611686018427387904
    · rw [if_pos hq] at h
      have h2 := Option.bind_eq_some_iff.1 h
      clear h
      obtain ⟨r, hk, h⟩ := h2
      simp only [Option.some.injEq, Prod.mk.injEq] at h
      obtain ⟨rfl, rfl⟩ := h
      obtain ⟨hall, hre⟩ := keepM_some hk
      have HO := Aside0.mk ho
      have HALL := Aside0.mk hall
      have HQ := Aside0.mk hq
      have HRR := Aside0.mk hre
      have HBW := Aside0.mk (below_alloc (Below.refl w.heap.size w) (Obj.cells #[Value.slice A0 l0.length c0] 22))
      clear ho hall hq hk hre
      go_enter Try.func33, Try.ntmps33
      go_wp2_with (first | (go_at_call 52; refine (impl_isOrder.calls k A0 c0 l0 true _ (Kd.C_alloc HR0.out _) hc0 HT.out).mono ?_; rintro e_ w2 ⟨rfl, ⟨nd, rfl⟩⟩) | (go_at_call 76; refine (impl_allOrders.calls k (l0.length : Int) rows _ HO.out).mono ?_; rintro e_ w2 ⟨v2, rfl, hs2, hb2⟩; obtain ⟨g, cap, eg, gb, gl, _⟩ := Kd.S_form hs2 HQ.out.1; subst eg; have HS2 := Aside0.mk hs2; have HB2 := Aside0.mk (below_step (pw_below_drewN HBW.out nd) hb2); have HBK := Aside0.mk (blk_below (blk_drewN HBX.out nd) hb2); have HG := Aside0.mk (show w.heap.size + 1 ≤ g by simpa using gb); clear hs2 hb2 gb gl) | (go_at_call 75; refine (deleteFunc_sw (.pointer (some ⟨w.heap.size, 0, none⟩)) (fun x => !(impl_SweptFrom.g k l0 x == some true)) rows w2 _ g cap _ HS2.out HQ.out.2 (fun W A c x hF hx hC hc => ?cb)).mono ?_; (case cb => obtain ⟨b, hb⟩ := HALL.out x hx; obtain ⟨t_, ht_, he_⟩ := Option.bind_eq_some_iff.1 hb; have hh := SweptFrom_cb k l0 A0 c0 w.heap.size w W (HB2.out.trans (hF.below HB2.out.size (fun k_ hk => by have := HG.out; omega))) (blk_fr HBK.out hF (fun hk => by have := HG.out; omega)) HR0.out hc0 A c x t_ b ht_ he_ hC hc; rw [hb]; cases b <;> exact hh); rintro e_ w3 ⟨rfl, hs3, hf3⟩; have HS3 := Aside0.mk hs3; have HF3 := Aside0.mk hf3; clear hs3 hf3))
      go_ret2
      have hS := HS3.out
      simp only [Bool.not_not] at hS
      rw [← HRR.out] at hS
      have hg := HG.out
      refine ⟨_, by simp only [Bool.not_not, ← HRR.out]; rfl, Kd.S_lower hS (by simp), HB2.out.trans (HF3.out.below HB2.out.size (fun k_ hk => by omega))⟩
    · rw [if_neg hq] at h; cases h
end

/-! ### laws_markIntSS: function 34 -/
def laws_markIntSS.go (k : Nat) : List (List Int) → List (List Int) → Int → Option (Int × List (List Int))
  | [], acc, a => some (a, acc)
  | c :: s, acc, a => (laws_markIntS.f k c a).bind fun q => laws_markIntSS.go k s (acc ++ [q.2]) q.1
def laws_markIntSS.f (k : Nat) (l0 : List (List Int)) (a1 : Int) : Option (Int × List (List Int)) := laws_markIntSS.go k l0 [] a1
theorem laws_markIntSS.mono_g (k : Nat) : ∀ (s acc : List (List Int)) (a : Int), LeO (laws_markIntSS.go k s acc a) (laws_markIntSS.go (k + 1) s acc a) := by
  intro s
  induction s with
  | nil => intro acc a; exact LeO.refl _
  | cons c s ih =>
    intro acc a
    simp only [laws_markIntSS.go]
    exact LeO.bind (laws_markIntS.mono _ _ _) (fun q => ih _ _)
theorem laws_markIntSS.mono : ∀ a0 a1 k, LeO (laws_markIntSS.f k a0 a1) (laws_markIntSS.f (k + 1) a0 a1) := fun a0 a1 k => laws_markIntSS.mono_g k a0 [] a1
set_option maxHeartbeats 8000000 in
set_option maxRecDepth 100000 in
theorem laws_markIntSS.calls (k : Nat) (P0_ : Nat → Prop) (u9000_ : Value) (l0 : List (List Int)) (a1 : Int) (r1 : Int) (r2 : List (List Int)) (w0 w : World) (hB : Below w0.heap.size w0 w) (ho0 : Kd.S (Kd.slice 3 (Kd.int .i64)) 22 w w0.heap.size P0_ u9000_ l0) (h : laws_markIntSS.f k l0 a1 = some (r1, r2)) :
    Calls Try.prog 34 #[u9000_, .int .i64 a1] w fun e w' => e = .returned (.int .i64 r1) ∧ Kd.S (Kd.slice 3 (Kd.int .i64)) 22 w' w0.heap.size (fun k_ => (P0_ k_ ∨ w.heap.size ≤ k_)) u9000_ r2 ∧ Below w0.heap.size w0 w' ∧ Kept w w' (fun k_ => P0_ k_) := by
  have HO0 := Aside0.mk (show Kd.S (Kd.slice 3 (Kd.int .i64)) 22 w w0.heap.size (fun k_ => (P0_ k_ ∨ w.heap.size ≤ k_)) u9000_ ([] ++ l0) from Kd.S_mono ho0 (fun k_ hk => (.inl hk)))
  have HK := Aside0.mk (Kept.refl w (fun k_ => P0_ k_))
  have HB := Aside0.mk hB
  have H' := Aside0.mk (show laws_markIntSS.go k l0 [] a1 = some (r1, r2) from h)
  have HN := Aside0.mk (Kd.S_reads ho0)
  obtain ⟨Au, cu, eu, _, hCu⟩ := HN.out
  have hlen : l0.length ≤ 9223372036854775807 := hCu.2.1
  subst eu
  clear hB h ho0 hCu HN
  go_enter Try.func34, Try.ntmps34
  go_wp2
  go_loopg [1, 5] l0.length (fun kq v1 v5 wr => ∃ (pre suf : List (List Int)) (a : Int), v1 = .int .i64 a ∧ v5 = .int .i64 (pre.length : Int) ∧ kq = suf.length ∧ Aside0 (pre.length + suf.length = l0.length) ∧ Aside0 (laws_markIntSS.go k suf pre a = some (r1, r2)) ∧ Aside0 (Kd.S (Kd.slice 3 (Kd.int .i64)) 22 wr w0.heap.size (fun k_ => (P0_ k_ ∨ w.heap.size ≤ k_)) (.slice Au l0.length cu) (pre ++ suf)) ∧ Aside0 (Kept w wr (fun k_ => P0_ k_)) ∧ Aside0 (Below w0.heap.size w0 wr))
  case atStart => exact ⟨[], l0, a1, rfl, rfl, rfl, ⟨by simp⟩, H', HO0, HK, HB⟩
  case round =>
    clear HO0 HK HB H'
    obtain ⟨pre, suf, a, rfl, rfl, rfl, HL, HG, HO, HK, HB⟩ := hrel
    have hL := HL.out
    cases suf with
    | nil =>
      have hg : ¬ ((pre.length : Int) < (l0.length : Int)) := by simp at hL; omega
      have hgb : decide ((pre.length : Int) < (l0.length : Int)) = false := decide_eq_false hg
      have e := HG.out
      simp only [laws_markIntSS.go, Option.some.injEq, Prod.mk.injEq] at e
      obtain ⟨rfl, rfl⟩ := e
      clear hL hlen
      go_wp2
      go_ret
      exact ⟨rfl, by have := HO.out; rwa [List.append_nil] at this, HB.out, HK.out⟩
    | cons c t =>
      simp only [List.length_cons] at hL
      have hg : (pre.length : Int) < (l0.length : Int) := by omega
      have hgb : decide ((pre.length : Int) < (l0.length : Int)) = true := decide_eq_true hg
      have e := HG.out
      simp only [laws_markIntSS.go] at e
      obtain ⟨q, hq, e⟩ := Option.bind_eq_some_iff.1 e
      have HQ := Aside0.mk hq
      have HE := Aside0.mk e
      have hb1 : (pre.length : Int) ≤ 9223372036854775806 := by omega
      obtain ⟨g, cg, eg, gb, gl, cl, HGg⟩ := Kd.S_form HO.out (by rw [List.length_append, List.length_cons]; omega)
      have hcl : l0.length = (pre ++ c :: t).length := by simp; omega
      cases Au with
      | none => cases eg
      | some ad =>
        obtain rfl : ad = ⟨g, 0, none⟩ := by injection eg with e1 _ _; injection e1
        obtain ⟨oki, cs, hcs, hM, hcc, hfr, hoki, hH⟩ := Kd.S_elem HO.out [] (pre.length : Int) (by omega) (by omega)
        obtain ⟨v, rfl, hR⟩ := hM
        have hx : (pre ++ c :: t).getD ((pre.length : Int)).toNat [] = c := by simp
        rw [hx] at hR
        obtain ⟨A, cA, rfl⟩ := Kd.R_slice hR
        have hcell := hcc 0 _ rfl
        rw [show (((pre.length : Int)).toNat * (Kd.slice 3 (Kd.int .i64)).sz + 0) = pre.length by simp [Kd.slice]] at hcell
        have HR := Aside0.mk hR
        have HH := Aside0.mk hH
        have HO_ := Aside0.mk hoki
        clear hq e hL hcl hcc hfr hoki hH hR eg gb gl cl HGg hx hlen
        go_wp2_with (go_at_call 16; (with_reducible refine (laws_markIntS.calls k oki (.slice A c.length cA) c a q.1 q.2 w0 _ HB.out HR.out HQ.out).mono ?_); rintro e_ w6 ⟨rfl, hr6, hb6, hk6⟩; have HX := Aside0.mk hr6; have HY := Aside0.mk hb6; have HZ := Aside0.mk hk6; clear hr6 hb6 hk6)
        go_roundg t.length
        case measure => simp
        case rel =>
          refine ⟨pre ++ [q.2], t, q.1, rfl, by simp [wrap64], rfl, ⟨by have := HL.out; simp at this ⊢; omega⟩, HE, ⟨?_⟩, ⟨HK.out.then_ HZ.out (fun k_ hk => (HO_.out k_ hk).1)⟩, HY⟩
          have hH2 := Kd.H_kept HH.out HZ.out (fun k_ _ hn => hn)
          have hM2 : (Kd.slice 3 (Kd.int .i64)).M w6 w0.heap.size oki q.2 [.slice A c.length cA] := Kd.M_row (Kd.R_mono (Kd.R_tight rfl HX.out) (fun k_ hk => HR.out.1 k_ hk.symm))
          have hS := Kd.H_back hH2 hM2 (fun _ hk => hk)
          have e2 : (pre ++ c :: t).set ((pre.length : Int)).toNat q.2 = (pre ++ [q.2]) ++ t := by simp
          rw [e2] at hS
          exact hS

/-! ### laws_heldIntS: function 17 -/
def laws_heldIntS.l0 : Nat → List Int → Int → Int → Option (Int)
  | 0, _, _, _ => none
  | k + 1, x0, x1, x5 => if x5 < (x0.length : Int) then (if 0 ≤ x5 then (if (rd x0 x5) = x1 then (laws_heldIntS.l0 k x0 (wrap64 (x1 + 1)) (wrap64 (x5 + 1))) else (some (-1))) else (none)) else (some x1)
def laws_heldIntS.f (k : Nat) (l0 : List Int) (a1 : Int) : Option (Int) := laws_heldIntS.l0 k l0 a1 0
theorem laws_heldIntS.mono_l : ∀ k, (∀ y0 y1 y2, LeO (laws_heldIntS.l0 k y0 y1 y2) (laws_heldIntS.l0 (k + 1) y0 y1 y2))
  | 0 => fun _ _ _ r h => by simp [laws_heldIntS.l0] at h
  | k + 1 => by
    have ih0 := laws_heldIntS.mono_l k
    · intro y0 y1 y2
      unfold laws_heldIntS.l0
      repeat' first
      | (with_reducible exact ih0 _ _ _)
      | (with_reducible exact LeO.refl _)
      | (with_reducible exact LeO.none _)
      | (with_reducible refine LeO.ite ?_ ?_)
      | (with_reducible refine LeO.bind ?_ (fun _ => ?_))
      | exact ih0 _ _ _
      | exact LeO.none _
      | refine LeO.ite ?_ ?_
      | refine LeO.bind ?_ (fun _ => ?_)
theorem laws_heldIntS.mono : ∀ a0 a1 k, LeO (laws_heldIntS.f k a0 a1) (laws_heldIntS.f (k + 1) a0 a1) := by
  intro a0 a1 k
  have ih0 := laws_heldIntS.mono_l k
  unfold laws_heldIntS.f
  repeat' first
      | (with_reducible exact ih0 _ _ _)
      | (with_reducible exact LeO.refl _)
      | (with_reducible exact LeO.none _)
      | (with_reducible refine LeO.ite ?_ ?_)
      | (with_reducible refine LeO.bind ?_ (fun _ => ?_))
      | exact ih0 _ _ _
      | exact LeO.none _
      | refine LeO.ite ?_ ?_
      | refine LeO.bind ?_ (fun _ => ?_)
set_option maxHeartbeats 8000000 in
set_option maxRecDepth 100000 in
theorem laws_heldIntS.calls (k : Nat) (A0 : Option Addr) (c0 : Nat) (l0 : List Int) (a1 : Int) (r : Int) (w : World) (hr0 : Kd.C (Kd.int .i64) w A0 l0.length l0) (hc0 : l0.length ≤ c0) (h : laws_heldIntS.f k l0 a1 = some r) :
    Calls Try.prog 17 #[.slice A0 l0.length c0, .int .i64 a1] w fun e w' => e = .returned (.int .i64 r) ∧ Drawn0 w w' := by
  have HR0 := Aside0.mk hr0
  have HC0 := Aside0.mk hc0
  clear hr0 hc0
  have H : (laws_heldIntS.l0 k l0 a1 0) = some r := h
  clear h
  have H' := Aside0.mk H
  clear H
  go_enter Try.func17, Try.ntmps17
  go_wp2
  go_loopg [1, 5] k (fun kq v1 v5 w' => ∃ (x1_1 : Int) (x5_1 : Int), v1 = .int .i64 x1_1 ∧ v5 = .int .i64 x5_1 ∧ Aside0 (laws_heldIntS.l0 kq l0 x1_1 x5_1 = some r) ∧ Aside0 (kq ≤ k) ∧ Drawn0 w w')
  case atStart => exact ⟨(a1), (0), (by first | rfl | (simp; done) | (simp [*]; done)), (by first | rfl | (simp; done) | (simp [*]; done)), H', ⟨Nat.le_refl _⟩, by repeat (first | exact Drawn0.refl _ | apply Drawn0.step)⟩
  case round =>
    clear H'
    try clear c1
    try clear p2
    obtain ⟨x1_1, x5_1, rfl, rfl, HA, HK1, ⟨m1, rfl⟩⟩ := hrel
    cases gk with
    | zero => exact absurd HA.out (by simp [laws_heldIntS.l0])
    | succ k1 =>
      have H := HA.out
      clear HA
      simp only [laws_heldIntS.l0] at H
      by_cases c3 : x5_1 < (l0.length : Int)
      · rw [if_pos c3] at H
        have c3b0 : decide (x5_1 < (l0.length : Int)) = true := decide_eq_true c3
        clear c3
        by_cases c4 : 0 ≤ x5_1
        · rw [if_pos c4] at H
          have c4b0 : decide (0 ≤ x5_1) = true := decide_eq_true c4
          clear c4
          by_cases c5 : (rd l0 x5_1) = x1_1
          · rw [if_pos c5] at H
            have c5b0 : ((rd l0 x5_1) == x1_1) = true := beq_iff_eq.mpr c5
            have c5b1 : ((rd l0 x5_1) != x1_1) = false := bne_eq_false_iff_eq.mpr c5
            clear c5
            have H' := Aside0.mk H
            clear H
            have p290 : 0 ≤ (x5_1 : Int) := of_decide_eq_true (by first | (with_reducible assumption) | assumption)
            have q290 : x5_1 < (l0.length : Int) := of_decide_eq_true (by first | (with_reducible assumption) | assumption)
            obtain ⟨ad290, e290, hx290_0⟩ := Kd.at_int HR0.out x5_1 p290 q290
            cases e290
            replace p290 := eq_true p290
            replace q290 := eq_true q290
            go_wp2
            go_roundg k1
            case measure => have := HK1.out; omega
            case rel => exact ⟨(wrap64 (x1_1 + 1)), (wrap64 (x5_1 + 1)), (by first | rfl | (simp; done) | (simp [*]; done)), (by first | rfl | (simp; done) | (simp [*]; done)), H', ⟨by have := HK1.out; omega⟩, by repeat (first | exact Drawn0.refl _ | apply Drawn0.step)⟩
          · rw [if_neg c5] at H
            have c5b0 : ((rd l0 x5_1) == x1_1) = false := beq_eq_false_iff_ne.mpr c5
            have c5b1 : ((rd l0 x5_1) != x1_1) = true := bne_iff_ne.mpr c5
            obtain rfl := Option.some.inj H
            have p290 : 0 ≤ (x5_1 : Int) := of_decide_eq_true (by first | (with_reducible assumption) | assumption)
            have q290 : x5_1 < (l0.length : Int) := of_decide_eq_true (by first | (with_reducible assumption) | assumption)
            obtain ⟨ad290, e290, hx290_0⟩ := Kd.at_int HR0.out x5_1 p290 q290
            cases e290
            replace p290 := eq_true p290
            replace q290 := eq_true q290
            go_wp2
            go_ret
            exact ⟨by first | rfl | (simp; done) | (simp [*]; done), by repeat (first | exact Drawn0.refl _ | apply Drawn0.step)⟩
        · rw [if_neg c4] at H
          exact absurd H (by simp)
      · rw [if_neg c3] at H
        have c3b0 : decide (x5_1 < (l0.length : Int)) = false := decide_eq_false c3
        clear c3
        obtain rfl := Option.some.inj H
        go_wp2
        go_ret
        exact ⟨by first | rfl | (simp; done) | (simp [*]; done), by repeat (first | exact Drawn0.refl _ | apply Drawn0.step)⟩

/-! ### laws_heldIntSS: function 35 -/
def laws_heldIntSS.l0 : Nat → List (List Int) → Int → Int → Option (Int)
  | 0, _, _, _ => none
  | k + 1, x0, x1, x5 => if x5 < (x0.length : Int) then (if 0 ≤ x5 then ((laws_heldIntS.f k (rd_L1 x0 x5) x1).bind fun t292 => (if t292 < 0 then (some (-1)) else (laws_heldIntSS.l0 k x0 t292 (wrap64 (x5 + 1))))) else (none)) else (some x1)
def laws_heldIntSS.f (k : Nat) (l0 : List (List Int)) (a1 : Int) : Option (Int) := laws_heldIntSS.l0 k l0 a1 0
theorem laws_heldIntSS.mono_l : ∀ k, (∀ y0 y1 y2, LeO (laws_heldIntSS.l0 k y0 y1 y2) (laws_heldIntSS.l0 (k + 1) y0 y1 y2))
  | 0 => fun _ _ _ r h => by simp [laws_heldIntSS.l0] at h
  | k + 1 => by
    have ih0 := laws_heldIntSS.mono_l k
    · intro y0 y1 y2
      unfold laws_heldIntSS.l0
      repeat' first
      | (with_reducible exact ih0 _ _ _)
      | (with_reducible exact laws_heldIntS.mono _ _ _)
      | (with_reducible exact LeO.refl _)
      | (with_reducible exact LeO.none _)
      | (with_reducible refine LeO.ite ?_ ?_)
      | (with_reducible refine LeO.bind ?_ (fun _ => ?_))
      | exact ih0 _ _ _
      | exact laws_heldIntS.mono _ _ _
      | exact LeO.none _
      | refine LeO.ite ?_ ?_
      | refine LeO.bind ?_ (fun _ => ?_)
theorem laws_heldIntSS.mono : ∀ a0 a1 k, LeO (laws_heldIntSS.f k a0 a1) (laws_heldIntSS.f (k + 1) a0 a1) := by
  intro a0 a1 k
  have ih0 := laws_heldIntSS.mono_l k
  unfold laws_heldIntSS.f
  repeat' first
      | (with_reducible exact ih0 _ _ _)
      | (with_reducible exact laws_heldIntS.mono _ _ _)
      | (with_reducible exact LeO.refl _)
      | (with_reducible exact LeO.none _)
      | (with_reducible refine LeO.ite ?_ ?_)
      | (with_reducible refine LeO.bind ?_ (fun _ => ?_))
      | exact ih0 _ _ _
      | exact laws_heldIntS.mono _ _ _
      | exact LeO.none _
      | refine LeO.ite ?_ ?_
      | refine LeO.bind ?_ (fun _ => ?_)
set_option maxHeartbeats 8000000 in
set_option maxRecDepth 100000 in
theorem laws_heldIntSS.calls (k : Nat) (A0 : Option Addr) (c0 : Nat) (l0 : List (List Int)) (a1 : Int) (r : Int) (w : World) (hr0 : Kd.C (Kd.slice 3 (Kd.int .i64)) w A0 l0.length l0) (hc0 : l0.length ≤ c0) (h : laws_heldIntSS.f k l0 a1 = some r) :
    Calls Try.prog 35 #[.slice A0 l0.length c0, .int .i64 a1] w fun e w' => e = .returned (.int .i64 r) ∧ Drawn0 w w' := by
  have HR0 := Aside0.mk hr0
  have HC0 := Aside0.mk hc0
  clear hr0 hc0
  have H : (laws_heldIntSS.l0 k l0 a1 0) = some r := h
  clear h
  have H' := Aside0.mk H
  clear H
  go_enter Try.func35, Try.ntmps35
  go_wp2
  go_loopg [1, 5] k (fun kq v1 v5 w' => ∃ (x1_1 : Int) (x5_1 : Int), v1 = .int .i64 x1_1 ∧ v5 = .int .i64 x5_1 ∧ Aside0 (laws_heldIntSS.l0 kq l0 x1_1 x5_1 = some r) ∧ Aside0 (kq ≤ k) ∧ Drawn0 w w')
  case atStart => exact ⟨(a1), (0), (by first | rfl | (simp; done) | (simp [*]; done)), (by first | rfl | (simp; done) | (simp [*]; done)), H', ⟨Nat.le_refl _⟩, by repeat (first | exact Drawn0.refl _ | apply Drawn0.step)⟩
  case round =>
    clear H'
    try clear p2
    obtain ⟨x1_1, x5_1, rfl, rfl, HA, HK1, ⟨m1, rfl⟩⟩ := hrel
    cases gk with
    | zero => exact absurd HA.out (by simp [laws_heldIntSS.l0])
    | succ k1 =>
      have H := HA.out
      clear HA
      simp only [laws_heldIntSS.l0] at H
      by_cases c3 : x5_1 < (l0.length : Int)
      · rw [if_pos c3] at H
        have c3b0 : decide (x5_1 < (l0.length : Int)) = true := decide_eq_true c3
        clear c3
        by_cases c4 : 0 ≤ x5_1
        · rw [if_pos c4] at H
          have c4b0 : decide (0 ≤ x5_1) = true := decide_eq_true c4
          clear c4
          replace H := Option.bind_eq_some_iff.mp H
          obtain ⟨t292, A50, H⟩ := H
          replace H : (if t292 < 0 then (some (-1)) else (laws_heldIntSS.l0 k1 l0 t292 (wrap64 (x5_1 + 1)))) = some r := H
          have A5 := Aside0.mk A50
          clear A50
          by_cases c6 : t292 < 0
          · rw [if_pos c6] at H
            have c6b0 : decide (t292 < 0) = true := decide_eq_true c6
            clear c6
            obtain rfl := Option.some.inj H
            have p291 : 0 ≤ (x5_1 : Int) := of_decide_eq_true (by first | (with_reducible assumption) | assumption)
            have q291 : x5_1 < (l0.length : Int) := of_decide_eq_true (by first | (with_reducible assumption) | assumption)
            obtain ⟨ad291, A291_0, c291_0, e291, hx291_0, hl291_0, hi291_0⟩ := at_L1 HR0.out x5_1 p291 q291
            cases e291
            have HR291_0 := Aside0.mk hi291_0
            have HC291_0 := Aside0.mk hl291_0
            clear hi291_0 hl291_0
            replace p291 := eq_true p291
            replace q291 := eq_true q291
            go_wp2_with (first | ((with_reducible refine gate_callee (f := 17) rfl ?_); refine goesL_ (some 17) rfl rfl Try.func17 (by kernel_rfl) rfl #[.slice A291_0 (rd_L1 l0 x5_1).length c291_0, .int .i64 x1_1] rfl (by (try simp only [List.map_toArray, List.map_cons, List.map_nil]); first | done | rfl | (simp only [List.length_drop, List.length_take]; rfl)) ?_; (with_reducible refine (laws_heldIntS.calls k1 _ _ (rd_L1 l0 x5_1) x1_1 t292 _ ?side1 ?side2 A5.out).mono ?_); (case side1 => repeat (first | exact HR291_0.out | (with_reducible refine Kd.C_alloc ?_ _) | (with_reducible refine Kd.C_drewN ?_ _) | (with_reducible refine Kd.C_drew ?_))); (case side2 => exact HC291_0.out); rintro e w' ⟨rfl, ⟨nd, rfl⟩⟩; refine ⟨_, rfl, ?_⟩))
            go_ret
            exact ⟨by first | rfl | (simp; done) | (simp [*]; done), by repeat (first | exact Drawn0.refl _ | apply Drawn0.step)⟩
          · rw [if_neg c6] at H
            have c6b0 : decide (t292 < 0) = false := decide_eq_false c6
            clear c6
            have H' := Aside0.mk H
            clear H
            have p291 : 0 ≤ (x5_1 : Int) := of_decide_eq_true (by first | (with_reducible assumption) | assumption)
            have q291 : x5_1 < (l0.length : Int) := of_decide_eq_true (by first | (with_reducible assumption) | assumption)
            obtain ⟨ad291, A291_0, c291_0, e291, hx291_0, hl291_0, hi291_0⟩ := at_L1 HR0.out x5_1 p291 q291
            cases e291
            have HR291_0 := Aside0.mk hi291_0
            have HC291_0 := Aside0.mk hl291_0
            clear hi291_0 hl291_0
            replace p291 := eq_true p291
            replace q291 := eq_true q291
            go_wp2_with (first | ((with_reducible refine gate_callee (f := 17) rfl ?_); refine goesL_ (some 17) rfl rfl Try.func17 (by kernel_rfl) rfl #[.slice A291_0 (rd_L1 l0 x5_1).length c291_0, .int .i64 x1_1] rfl (by (try simp only [List.map_toArray, List.map_cons, List.map_nil]); first | done | rfl | (simp only [List.length_drop, List.length_take]; rfl)) ?_; (with_reducible refine (laws_heldIntS.calls k1 _ _ (rd_L1 l0 x5_1) x1_1 t292 _ ?side1 ?side2 A5.out).mono ?_); (case side1 => repeat (first | exact HR291_0.out | (with_reducible refine Kd.C_alloc ?_ _) | (with_reducible refine Kd.C_drewN ?_ _) | (with_reducible refine Kd.C_drew ?_))); (case side2 => exact HC291_0.out); rintro e w' ⟨rfl, ⟨nd, rfl⟩⟩; refine ⟨_, rfl, ?_⟩))
            go_roundg k1
            case measure => have := HK1.out; omega
            case rel => exact ⟨(t292), (wrap64 (x5_1 + 1)), (by first | rfl | (simp; done) | (simp [*]; done)), (by first | rfl | (simp; done) | (simp [*]; done)), H', ⟨by have := HK1.out; omega⟩, by repeat (first | exact Drawn0.refl _ | apply Drawn0.step)⟩
        · rw [if_neg c4] at H
          exact absurd H (by simp)
      · rw [if_neg c3] at H
        have c3b0 : decide (x5_1 < (l0.length : Int)) = false := decide_eq_false c3
        clear c3
        obtain rfl := Option.some.inj H
        go_wp2
        go_ret
        exact ⟨by first | rfl | (simp; done) | (simp [*]; done), by repeat (first | exact Drawn0.refl _ | apply Drawn0.step)⟩

/-! ### shared: lawev -/
section
open Go.Proofs.Ytjaplmgbhmgpiaa.Base
/-! ### laws.toIntS, laws.eqIntS -/
theorem toInt_l (l : List Int) (hl : l.length * 8 ≤ 140737488351232) : ∀ (suf pre : List Int), l = pre ++ suf → Ev (fun k => laws_toIntS.l0 k l (pre ++ List.replicate suf.length 0) (pre.length : Int)) l := by
  intro suf
  induction suf with
  | nil =>
    intro pre e
    have h := len_end e
    refine ev_succ ?_
    simp only [laws_toIntS.l0.eq_2]
    refine ev_neg (by omega) ?_
    exact ev_now (by rw [e]; simp)
  | cons c suf ih =>
    intro pre e
    have h := len_mid e
    refine ev_succ ?_
    simp only [laws_toIntS.l0.eq_2, rd_mid' e]
    refine ev_pos (by omega) (ev_pos (by omega) (ev_pos (by simp; omega) ?_))
    rw [wrap_snoc (pre := pre) (c := c) (by omega)]
    have e2 : (pre ++ List.replicate (c :: suf).length 0).set ((pre.length : Int)).toNat c = (pre ++ [c]) ++ List.replicate suf.length 0 := by
      simp [List.replicate_succ]
    rw [e2]
    exact ih _ (snoc_mid e)
theorem toInt_ev (l : List Int) (hl : l.length * 8 ≤ 140737488351232) : Ev (fun k => laws_toIntS.f k l) l := by
  unfold laws_toIntS.f
  refine ev_pos (by omega) (ev_pos (by omega) ?_)
  have := toInt_l l hl l [] rfl
  simpa using this
theorem eqInt_l (a b : List Int) (hl : a.length * 8 ≤ 140737488351232) : ∀ (s t pre q : List Int), a = pre ++ s → b = q ++ t → pre.length = q.length → s.length = t.length → Ev (fun k => laws_eqIntS.l0 k a b (pre.length : Int)) (decide (s = t)) := by
  intro s
  induction s with
  | nil =>
    intro t pre q e e' h1 h2
    have h := len_end e
    obtain rfl : t = [] := by cases t with
      | nil => rfl
      | cons _ _ => simp at h2
    refine ev_succ ?_
    simp only [laws_eqIntS.l0.eq_2]
    refine ev_neg (by omega) ?_
    exact ev_now (by simp)
  | cons c s ih =>
    intro t pre q e e' h1 h2
    cases t with
    | nil => simp at h2
    | cons d t =>
    have h := len_mid e
    have h' := len_mid e'
    refine ev_succ ?_
    have r1 := rd_mid' e
    have r2 := rd_mid' e'
    rw [← h1] at r2
    simp only [laws_eqIntS.l0.eq_2, r1, r2]
    refine ev_pos (by omega) (ev_pos (by omega) (ev_pos (by omega) ?_))
    by_cases hc : c = d
    · refine ev_pos hc ?_
      rw [wrap_snoc (pre := pre) (c := c) (by omega)]
      refine ev_eq (ih t (pre ++ [c]) (q ++ [d]) (snoc_mid e) (snoc_mid e') (by simp [h1]) (by simpa using h2)) ?_
      simp [hc]
    · refine ev_neg hc (ev_now ?_)
      simp [hc]
theorem eqInt_ev (a b : List Int) (hl : a.length * 8 ≤ 140737488351232) : Ev (fun k => laws_eqIntS.f k a b) (decide (a = b)) := by
  unfold laws_eqIntS.f
  by_cases h : a.length = b.length
  · refine ev_pos (by omega) ?_
    exact eqInt_l a b hl a b [] [] rfl rfl rfl h
  · refine ev_neg (by omega) (ev_now ?_)
    symm
    exact decide_eq_false (fun e => h (by rw [e]))
/-! ### laws.markIntS, laws.heldIntS -/
theorem mark_l : ∀ (suf pre : List Int) (x : Int), 0 ≤ x → x + suf.length ≤ 4611686018427387904 → pre.length + suf.length ≤ 4611686018427387904 → Ev (fun k => laws_markIntS.l0 k (pre ++ suf) x (pre.length : Int)) (x + suf.length, pre ++ iota x suf.length) := by
  intro suf
  induction suf with
  | nil =>
    intro pre x h0 h1 h2
    refine ev_succ ?_
    simp only [laws_markIntS.l0.eq_2]
    refine ev_neg (by simp) ?_
    exact ev_now (by simp [iota])
  | cons c suf ih =>
    intro pre x h0 h1 h2
    simp only [List.length_cons] at h1 h2
    refine ev_succ ?_
    simp only [laws_markIntS.l0.eq_2]
    refine ev_pos (by simp; omega) (ev_pos (by omega) ?_)
    have e2 : (pre ++ c :: suf).set ((pre.length : Int)).toNat x = (pre ++ [x]) ++ suf := by simp
    rw [wrap_snoc (pre := pre) (c := x) (by omega), e2, wrap_of (by omega) (by omega)]
    refine ev_eq (ih (pre ++ [x]) (x + 1) (by omega) (by omega) (by simp; omega)) ?_
    simp [iota]; omega
theorem mark_ev (l : List Int) (x : Int) (h0 : 0 ≤ x) (h1 : x + l.length ≤ 4611686018427387904) : Ev (fun k => laws_markIntS.f k l x) (x + l.length, iota x l.length) := by
  unfold laws_markIntS.f
  have := mark_l l [] x h0 h1 (by simp; omega)
  simpa using this
theorem held_l : ∀ (n : Nat) (pre : List Int) (x : Int), 0 ≤ x → x + n ≤ 4611686018427387904 → pre.length + n ≤ 4611686018427387904 → Ev (fun k => laws_heldIntS.l0 k (pre ++ iota x n) x (pre.length : Int)) (x + n) := by
  intro n
  induction n with
  | zero =>
    intro pre x h0 h1 h2
    refine ev_succ ?_
    simp only [laws_heldIntS.l0.eq_2]
    refine ev_neg (by simp [iota]) ?_
    exact ev_now (by simp)
  | succ n ih =>
    intro pre x h0 h1 h2
    refine ev_succ ?_
    simp only [laws_heldIntS.l0.eq_2, iota, rd_mid]
    refine ev_pos (by simp; omega) (ev_pos (by omega) (ev_pos trivial ?_))
    rw [wrap_snoc (pre := pre) (c := x) (by omega), wrap_of (by omega) (by omega), show pre ++ x :: iota (x + 1) n = (pre ++ [x]) ++ iota (x + 1) n by simp]
    refine ev_eq (ih (pre ++ [x]) (x + 1) (by omega) (by omega) (by simp; omega)) ?_
    omega
theorem held_ev (n : Nat) (x : Int) (h0 : 0 ≤ x) (h1 : x + n ≤ 4611686018427387904) : Ev (fun k => laws_heldIntS.f k (iota x n) x) (x + n) := by
  unfold laws_heldIntS.f
  have := held_l n [] x h0 h1 (by simp; omega)
  simpa using this
theorem rdL_mid {rows pre suf : List (List Int)} {c : List Int} (h : rows = pre ++ c :: suf) : rd_L1 rows (pre.length : Int) = c := by rw [h]; simp [rd_L1]
theorem eqIntSS_l (rows : List (List Int)) (hl : rows.length ≤ 1048576) (hr : ∀ xs ∈ rows, xs.length * 8 ≤ 140737488351232) : ∀ (suf pre : List (List Int)), rows = pre ++ suf → Ev (fun k => laws_eqIntSS.l0 k rows rows (pre.length : Int)) true := by
  intro suf
  induction suf with
  | nil =>
    intro pre e
    have h := len_end e
    refine ev_succ ?_
    simp only [laws_eqIntSS.l0.eq_2]
    exact ev_neg (by omega) (ev_now rfl)
  | cons c suf ih =>
    intro pre e
    have h := len_mid e
    refine ev_succ ?_
    simp only [laws_eqIntSS.l0.eq_2, rdL_mid e]
    rw [wrap_snoc (pre := pre) (c := c) (by omega)]
    exact ev_pos (by omega) (ev_pos (by omega) (ev_pos (by omega) (ev_bind (eqInt_ev c c (hr c (by rw [e]; simp))) (ev_pos (by simp) (ih _ (snoc_mid e))))))
theorem eqIntSS_ev (rows : List (List Int)) (hl : rows.length ≤ 1048576) (hr : ∀ xs ∈ rows, xs.length * 8 ≤ 140737488351232) : Ev (fun k => laws_eqIntSS.f k rows rows) true := by
  unfold laws_eqIntSS.f
  exact ev_pos rfl (eqIntSS_l rows hl hr rows [] rfl)
def sumLen : List (List Int) → Nat
  | [] => 0
  | c :: s => c.length + sumLen s
def markRows : List (List Int) → Int → List (List Int)
  | [], _ => []
  | c :: s, a => iota a c.length :: markRows s (a + (c.length : Int))
theorem markRows_len : ∀ (s : List (List Int)) (a : Int), (markRows s a).length = s.length := by
  intro s
  induction s with
  | nil => intro a; rfl
  | cons c s ih => intro a; simp [markRows, ih]
theorem sumLen_le : ∀ (s : List (List Int)), (∀ xs ∈ s, xs.length ≤ 1048576) → sumLen s ≤ s.length * 1048576 := by
  intro s
  induction s with
  | nil => intro _; simp [sumLen]
  | cons c s ih =>
    intro h
    have h1 := h c (by simp)
    have h2 := ih (fun x hx => h x (by simp [hx]))
    simp only [sumLen, List.length_cons]; omega
theorem markSS_l : ∀ (s acc : List (List Int)) (a : Int), 0 ≤ a → a + sumLen s ≤ 4611686018427387904 → Ev (fun k => laws_markIntSS.go k s acc a) (a + (sumLen s : Int), acc ++ markRows s a) := by
  intro s
  induction s with
  | nil => intro acc a _ _; exact ev_now (by simp [sumLen, markRows])
  | cons c s ih =>
    intro acc a h0 h1
    simp only [sumLen] at h1
    refine ev_bind (mark_ev c a h0 (by omega)) (ev_eq (ih _ _ (by omega) (by omega)) ?_)
    simp [sumLen, markRows]; omega
theorem markSS_ev (s : List (List Int)) (h : sumLen s ≤ 4611686018427387000) : Ev (fun k => laws_markIntSS.f k s 1) (1 + (sumLen s : Int), markRows s 1) := by
  unfold laws_markIntSS.f
  have := markSS_l s [] 1 (by omega) (by omega)
  simpa using this
theorem heldSS_l (rows : List (List Int)) (hl : rows.length ≤ 1048576) : ∀ (s : List (List Int)) (pre : List (List Int)) (a : Int), rows = pre ++ markRows s a → 0 ≤ a → a + sumLen s ≤ 4611686018427387904 → Ev (fun k => laws_heldIntSS.l0 k rows a (pre.length : Int)) (a + (sumLen s : Int)) := by
  intro s
  induction s with
  | nil =>
    intro pre a e _ _
    have h := len_end e
    refine ev_succ ?_
    simp only [laws_heldIntSS.l0.eq_2]
    exact ev_neg (by omega) (ev_now (by simp [sumLen]))
  | cons c s ih =>
    intro pre a e h0 h1
    simp only [sumLen] at h1
    simp only [markRows] at e
    have h := len_mid e
    refine ev_succ ?_
    simp only [laws_heldIntSS.l0.eq_2, rdL_mid e]
    rw [wrap_snoc (pre := pre) (c := iota a c.length) (by omega)]
    refine ev_pos (by omega) (ev_pos (by omega) (ev_bind (held_ev c.length a h0 (by omega)) (ev_neg (by omega) (ev_eq (ih _ _ (snoc_mid e) (by omega) (by omega)) ?_))))
    simp [sumLen]; omega
theorem heldSS_ev (s : List (List Int)) (hl : s.length ≤ 1048576) (h : sumLen s ≤ 4611686018427387000) : Ev (fun k => laws_heldIntSS.f k (markRows s 1) 1) (1 + (sumLen s : Int)) := by
  unfold laws_heldIntSS.f
  exact heldSS_l (markRows s 1) (by rw [markRows_len]; exact hl) s [] 1 rfl (by omega) (by omega)
def rowsOk (rows : List (List Int)) : Prop := rows.length ≤ 1048576 ∧ ∀ xs ∈ rows, xs.length ≤ 1048576
end

end Go.Proofs.Ytjaplmgbhmgpiaa.MFnExactSweptFrom
