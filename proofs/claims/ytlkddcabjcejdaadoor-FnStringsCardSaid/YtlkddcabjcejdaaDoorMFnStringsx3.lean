/- The functions that FnStrings comes to, with a walk for each. Made by this session's own program (wip/tools/mk.py), in the form of the kit's print; walks named in NOTES.md were written by hand. -/
import Derived.Test.YtlkddcabjcejdaaDoorMFnStringsx0
namespace Go.Proofs.YtlkddcabjcejdaaDoor.MFnStrings
open Go.RowKit Go.Proofs.YtlkddcabjcejdaaDoorW.PrintWords Go.Proofs.YtlkddcabjcejdaaDoorW.PrintLast Go.Proofs.YtlkddcabjcejdaaDoorW.PrintMore
attribute [local go_sem] max2_int min2_int max_two min_two max_three min_three max_four min_four   -- for this text's walks alone
set_option linter.unusedVariables false
set_option linter.unusedSimpArgs false

/-! ### laws_vAt: function 15 -/
def laws_vAt.f (l0 : List Int) (a1 : Int) : Option (Int) := if a1 < (l0.length : Int) then (if 0 ≤ a1 then (some (wrap64 (rd l0 a1))) else (none)) else (some (Int.tmod (wrap64 ((wrap64 (a1 * 7)) + (l0.length : Int))) 256))
set_option maxHeartbeats 8000000 in
set_option maxRecDepth 100000 in
theorem laws_vAt.calls (A0 : Option Addr) (c0 : Nat) (l0 : List Int) (a1 : Int) (r : Int) (w : World) (hr0 : Kd.C (Kd.int .u8) w A0 l0.length l0) (hc0 : l0.length ≤ c0) (h : laws_vAt.f l0 a1 = some r) :
    Calls Tryd.prog 15 #[.slice A0 l0.length c0, .int .i64 a1] w fun e w' => e = .returned (.int .i64 r) ∧ Drawn0 w w' := by
  have HR0 := Aside0.mk hr0
  have HC0 := Aside0.mk hc0
  clear hr0 hc0
  have H : (if a1 < (l0.length : Int) then (if 0 ≤ a1 then (some (wrap64 (rd l0 a1))) else (none)) else (some (Int.tmod (wrap64 ((wrap64 (a1 * 7)) + (l0.length : Int))) 256))) = some r := h
  clear h
  by_cases c3 : a1 < (l0.length : Int)
  · rw [if_pos c3] at H
    have c3b0 : decide (a1 < (l0.length : Int)) = true := decide_eq_true c3
    clear c3
    by_cases c4 : 0 ≤ a1
    · rw [if_pos c4] at H
      have c4b0 : decide (0 ≤ a1) = true := decide_eq_true c4
      clear c4
      obtain rfl := Option.some.inj H
      have p178 : 0 ≤ (a1 : Int) := of_decide_eq_true (by first | (with_reducible assumption) | assumption)
      have q178 : a1 < (l0.length : Int) := of_decide_eq_true (by first | (with_reducible assumption) | assumption)
      obtain ⟨ad178, e178, hx178_0⟩ := Kd.at_int HR0.out a1 p178 q178
      cases e178
      replace p178 := eq_true p178
      replace q178 := eq_true q178
      go_enter Tryd.func15, Tryd.ntmps15
      go_wp2
      go_ret
      exact ⟨by first | rfl | (simp; done) | (simp [*]; done), by repeat (first | exact Drawn0.refl _ | apply Drawn0.step)⟩
    · rw [if_neg c4] at H
      exact absurd H (by simp)
  · rw [if_neg c3] at H
    have c3b0 : decide (a1 < (l0.length : Int)) = false := decide_eq_false c3
    clear c3
    obtain rfl := Option.some.inj H
    go_enter Tryd.func15, Tryd.ntmps15
    go_wp2
    go_ret
    exact ⟨by first | rfl | (simp; done) | (simp [*]; done), by repeat (first | exact Drawn0.refl _ | apply Drawn0.step)⟩

/-! ### impl_checksum: function 27 -/
def impl_checksum.l0 : Nat → ByteArray → Int → Int → Int → Option (Int)
  | 0, _, _, _, _ => none
  | k + 1, x0, x3, x6, x7 => if x7 < x6 then (if 0 ≤ x7 then (if x7 < (x0.size : Int) then (impl_checksum.l0 k x0 (Int.tmod (wrap64 ((wrap64 ((wrap64 (41 * x3)) + (wrap64 (bt x0 x7)))) + 1)) 999979) x6 (wrap64 (x7 + 1))) else (none)) else (none)) else (some x3)
def impl_checksum.f (k : Nat) (a0 : ByteArray) : Option (Int) := impl_checksum.l0 k a0 7 (a0.size : Int) 0
theorem impl_checksum.mono_l : ∀ k, (∀ y0 y1 y2 y3, LeO (impl_checksum.l0 k y0 y1 y2 y3) (impl_checksum.l0 (k + 1) y0 y1 y2 y3))
  | 0 => fun _ _ _ _ r h => by simp [impl_checksum.l0] at h
  | k + 1 => by
    have ih0 := impl_checksum.mono_l k
    · intro y0 y1 y2 y3
      unfold impl_checksum.l0
      repeat' first
      | (with_reducible exact ih0 _ _ _ _)
      | (with_reducible exact LeO.refl _)
      | (with_reducible exact LeO.none _)
      | (with_reducible refine LeO.ite ?_ ?_)
      | (with_reducible refine LeO.bind ?_ (fun _ => ?_))
      | exact ih0 _ _ _ _
      | exact LeO.none _
      | refine LeO.ite ?_ ?_
      | refine LeO.bind ?_ (fun _ => ?_)
theorem impl_checksum.mono : ∀ a0 k, LeO (impl_checksum.f k a0) (impl_checksum.f (k + 1) a0) := by
  intro a0 k
  have ih0 := impl_checksum.mono_l k
  unfold impl_checksum.f
  repeat' first
      | (with_reducible exact ih0 _ _ _ _)
      | (with_reducible exact LeO.refl _)
      | (with_reducible exact LeO.none _)
      | (with_reducible refine LeO.ite ?_ ?_)
      | (with_reducible refine LeO.bind ?_ (fun _ => ?_))
      | exact ih0 _ _ _ _
      | exact LeO.none _
      | refine LeO.ite ?_ ?_
      | refine LeO.bind ?_ (fun _ => ?_)
set_option maxHeartbeats 8000000 in
set_option maxRecDepth 100000 in
theorem impl_checksum.calls (k : Nat) (a0 : ByteArray) (r : Int) (w : World) (h : impl_checksum.f k a0 = some r) :
    Calls Tryd.prog 27 #[.string a0] w fun e w' => e = .returned (.int .i64 r) ∧ Drawn0 w w' := by
  have H : (impl_checksum.l0 k a0 7 (a0.size : Int) 0) = some r := h
  clear h
  have H' := Aside0.mk H
  clear H
  go_enter Tryd.func27, Tryd.ntmps27
  go_wp2
  go_loopg [3, 7] k (fun kq v3 v7 w' => ∃ (x3_1 : Int) (x7_1 : Int), v3 = .int .i64 x3_1 ∧ v7 = .int .i64 x7_1 ∧ Aside0 (impl_checksum.l0 kq a0 x3_1 (a0.size : Int) x7_1 = some r) ∧ Aside0 (kq ≤ k) ∧ Drawn0 w w')
  case atStart => exact ⟨(7), (0), (by first | rfl | (simp; done) | (simp [*]; done)), (by first | rfl | (simp; done) | (simp [*]; done)), H', ⟨Nat.le_refl _⟩, by repeat (first | exact Drawn0.refl _ | apply Drawn0.step)⟩
  case round =>
    clear H'
    obtain ⟨x3_1, x7_1, rfl, rfl, HA, HK1, ⟨m1, rfl⟩⟩ := hrel
    cases gk with
    | zero => exact absurd HA.out (by simp [impl_checksum.l0])
    | succ k1 =>
      have H := HA.out
      clear HA
      simp only [impl_checksum.l0] at H
      by_cases c2 : x7_1 < (a0.size : Int)
      · rw [if_pos c2] at H
        have c2b0 : decide (x7_1 < (a0.size : Int)) = true := decide_eq_true c2
        clear c2
        by_cases c3 : 0 ≤ x7_1
        · rw [if_pos c3] at H
          have c3b0 : decide (0 ≤ x7_1) = true := decide_eq_true c3
          clear c3
          by_cases c4 : x7_1 < (a0.size : Int)
          · rw [if_pos c4] at H
            have c4b0 : decide (x7_1 < (a0.size : Int)) = true := decide_eq_true c4
            clear c4
            have H' := Aside0.mk H
            clear H
            have p5 : 0 ≤ (x7_1 : Int) := of_decide_eq_true (by first | (with_reducible assumption) | assumption)
            have q5 : x7_1 < (a0.size : Int) := of_decide_eq_true (by first | (with_reducible assumption) | assumption)
            have hx5 := bt_at a0 x7_1
            replace p5 := eq_true p5
            replace q5 := eq_true q5
            go_wp2
            go_roundg k1
            case measure => have := HK1.out; omega
            case rel => exact ⟨(Int.tmod (wrap64 ((wrap64 ((wrap64 (41 * x3_1)) + (wrap64 (bt a0 x7_1)))) + 1)) 999979), (wrap64 (x7_1 + 1)), (by first | rfl | (simp; done) | (simp [*]; done)), (by first | rfl | (simp; done) | (simp [*]; done)), H', ⟨by have := HK1.out; omega⟩, by repeat (first | exact Drawn0.refl _ | apply Drawn0.step)⟩
          · rw [if_neg c4] at H
            exact absurd H (by simp)
        · rw [if_neg c3] at H
          exact absurd H (by simp)
      · rw [if_neg c2] at H
        have c2b0 : decide (x7_1 < (a0.size : Int)) = false := decide_eq_false c2
        clear c2
        obtain rfl := Option.some.inj H
        go_wp2
        go_ret
        exact ⟨by first | rfl | (simp; done) | (simp [*]; done), by repeat (first | exact Drawn0.refl _ | apply Drawn0.step)⟩

/-! ### shared: formatint -/
section
def fiR (a0 : Int) : ByteArray × Bool := if -999999 ≤ a0 ∧ a0 ≤ 999999 then (⟨(Lib.itoa a0).toArray⟩, true) else (⟨#[]⟩, false)
set_option maxHeartbeats 8000000 in
set_option maxRecDepth 100000 in
theorem impl_FormatInt.callsT (a0 : Int) (w : World) (hr : -9223372036854775808 ≤ a0 ∧ a0 ≤ 9223372036854775807) (htab : Lib.TabIs Tryd.prog w "internal/strconv.uint64pow10" .u64 Lib.pow10Tab) :
    Calls Tryd.prog 6 #[.int .i64 a0] w fun e w' => e = .returned (.tuple #[.string (fiR a0).1, .bool (fiR a0).2]) ∧ Below w.heap.size w w' := by
  have HT := Aside0.mk htab
  have HR := Aside0.mk hr
  clear htab hr
  by_cases h1 : a0 < -999999
  · have h1b : decide (a0 < -999999) = true := decide_eq_true h1
    have e : fiR a0 = (⟨#[]⟩, false) := by unfold fiR; rw [if_neg (by omega)]
    rw [e]
    clear e
    go_enter Tryd.func6, Tryd.ntmps6
    go_wp2
    go_ret2
    exact ⟨rfl, Below.refl _ _⟩
  · have h1b : decide (a0 < -999999) = false := decide_eq_false h1
    by_cases h2 : 999999 < a0
    · have h2b : decide (999999 < a0) = true := decide_eq_true h2
      have e : fiR a0 = (⟨#[]⟩, false) := by unfold fiR; rw [if_neg (by omega)]
      rw [e]
      clear e
      go_enter Tryd.func6, Tryd.ntmps6
      go_wp2
      go_ret2
      exact ⟨rfl, Below.refl _ _⟩
    · have h2b : decide (999999 < a0) = false := decide_eq_false h2
      have e : fiR a0 = (⟨(Lib.itoa a0).toArray⟩, true) := by unfold fiR; rw [if_pos (by omega)]
      rw [e]
      clear e
      go_enter Tryd.func6, Tryd.ntmps6
      go_wp2_with (go_at_call 18; refine (Tryd.strconv_Itoa a0 HR.out.1 HR.out.2 _ HT.out).mono ?_; rintro e_ w1 ⟨rfl, n1, os1, rfl⟩; have HB := Aside0.mk (Lib.below_grow w.heap.size w (Nat.le_refl _) n1 os1))
      go_ret2
      exact ⟨rfl, HB.out⟩
end

/-! ### shared: parseint -/
section
def piV (s : ByteArray) : Int × Bool := match Lib.atoiAll s.data.toList with
  | .ok v => if (fiR v).2 = true ∧ (fiR v).1.toList = s.toList then (v, true) else (0, false)
  | _ => (0, false)
theorem atoiAll_range {l : List UInt8} {v : Int} (h : Lib.atoiAll l = .ok v) : -9223372036854775808 ≤ v ∧ v ≤ 9223372036854775807 := by
  cases l with
  | nil => simp [Lib.atoiAll] at h
  | cons c r =>
    simp only [Lib.atoiAll] at h
    cases hm : Lib.parseMag (if c.toNat = 43 ∨ c.toNat = 45 then r else c :: r) with
    | ok u =>
      rw [hm] at h
      simp only at h
      by_cases hn : c.toNat = 45
      · by_cases h2 : 9223372036854775808 < u
        · rw [if_neg (fun hh => hh.1 hn), if_pos ⟨hn, h2⟩] at h; cases h
        · rw [if_neg (fun hh => hh.1 hn), if_neg (fun hh => h2 hh.2), if_pos hn] at h
          injection h with h; omega
      · by_cases h1 : 9223372036854775808 ≤ u
        · rw [if_pos ⟨hn, h1⟩] at h; cases h
        · rw [if_neg (fun hh => h1 hh.2), if_neg (fun hh => hn hh.1), if_neg hn] at h
          injection h with h; omega
    | _ => rw [hm] at h; cases h
theorem atoiSat_two (l : List UInt8) : Lib.atoiSat l = -9223372036854775808 ∨ Lib.atoiSat l = 9223372036854775807 := by
  unfold Lib.atoiSat; split
  · exact .inl rfl
  · exact .inr rfl
set_option maxHeartbeats 8000000 in
set_option maxRecDepth 100000 in
theorem impl_ParseInt.callsT (s : ByteArray) (w : World) (hsz : s.size ≤ 1048576) (ev1 ev2 : Value) (h1 : w.cell? ⟨0, 0, none⟩ = some ev1) (h1i : ev1 = .nilIface ∨ ∃ te pe, ev1 = .iface te pe) (h2 : w.cell? ⟨1, 0, none⟩ = some ev2) (h2i : ev2 = .nilIface ∨ ∃ te pe, ev2 = .iface te pe) (htab : Lib.TabIs Tryd.prog w "internal/strconv.uint64pow10" .u64 Lib.pow10Tab) :
    Calls Tryd.prog 9 #[.string s] w fun e w' => e = .returned (.tuple #[.int .i64 (piV s).1, .bool (piV s).2]) ∧ Below w.heap.size w w' := by
  have hT := Lib.tabBelow_of_tabIs htab
  unfold piV
  cases hA : Lib.atoiAll s.data.toList with
  | ok v =>
    have hr := atoiAll_range hA
    have HI := Aside0.mk (fun w1 (hb : Below w.heap.size w w1) => impl_FormatInt.callsT v w1 hr (hT w1 hb))
    have HA := Aside0.mk (Tryd.strconv_Atoi_ok s (by omega) v hA w)
    simp only
    obtain ⟨⟨o, b⟩, hq⟩ : ∃ p, fiR v = p := ⟨_, rfl⟩
    rw [hq] at HI
    rw [hq]
    clear hq hT htab hA h1 h2 h1i h2i hr
    cases b with
    | false =>
      rw [if_neg (by simp)]
      go_enter Tryd.func9, Tryd.ntmps9
      go_wp2_with (first | (go_at_call 23; refine HA.out.mono ?_; rintro e_ w1 ⟨rfl, hw1⟩; have HB := Aside0.mk (show Below w.heap.size w w1 from (by rcases hw1 with rfl | ⟨t_, rfl⟩; exact Below.refl _ _; exact Lib.bytesWorld_below _ _ _)); clear hw1) | (go_at_call 6; refine (HI.out _ HB.out).mono ?_; rintro e_ w2 ⟨rfl, hb2⟩; replace HB := Aside0.mk (below_step HB.out hb2); clear hb2))
      go_ret2
      exact ⟨rfl, HB.out⟩
    | true =>
      by_cases hos : o.toList = s.toList
      · rw [if_pos ⟨rfl, hos⟩]
        have hb0 : (o.toList == s.toList) = true := beq_iff_eq.mpr hos
        clear hos
        go_enter Tryd.func9, Tryd.ntmps9
        go_wp2_with (first | (go_at_call 23; refine HA.out.mono ?_; rintro e_ w1 ⟨rfl, hw1⟩; have HB := Aside0.mk (show Below w.heap.size w w1 from (by rcases hw1 with rfl | ⟨t_, rfl⟩; exact Below.refl _ _; exact Lib.bytesWorld_below _ _ _)); clear hw1) | (go_at_call 6; refine (HI.out _ HB.out).mono ?_; rintro e_ w2 ⟨rfl, hb2⟩; replace HB := Aside0.mk (below_step HB.out hb2); clear hb2))
        go_ret2
        exact ⟨rfl, HB.out⟩
      · rw [if_neg (fun hh => hos hh.2)]
        have hb0 : (o.toList == s.toList) = false := beq_eq_false_iff_ne.mpr hos
        clear hos
        go_enter Tryd.func9, Tryd.ntmps9
        go_wp2_with (first | (go_at_call 23; refine HA.out.mono ?_; rintro e_ w1 ⟨rfl, hw1⟩; have HB := Aside0.mk (show Below w.heap.size w w1 from (by rcases hw1 with rfl | ⟨t_, rfl⟩; exact Below.refl _ _; exact Lib.bytesWorld_below _ _ _)); clear hw1) | (go_at_call 6; refine (HI.out _ HB.out).mono ?_; rintro e_ w2 ⟨rfl, hb2⟩; replace HB := Aside0.mk (below_step HB.out hb2); clear hb2))
        go_ret2
        exact ⟨rfl, HB.out⟩
  | range =>
    have hs2 := atoiSat_two s.data.toList
    obtain ⟨z, hz⟩ : ∃ z, Lib.atoiSat s.data.toList = z := ⟨_, rfl⟩
    rw [hz] at hs2
    have HI := Aside0.mk (fun w1 (hb : Below w.heap.size w w1) => impl_FormatInt.callsT z w1 (by omega) (hT w1 hb))
    have HA := Aside0.mk (Tryd.strconv_Atoi_range s (by omega) hA ev2 w h2 h2i)
    rw [hz] at HA
    simp only
    obtain ⟨⟨o, b⟩, hq⟩ : ∃ p, fiR z = p := ⟨_, rfl⟩
    rw [hq] at HI
    clear hq hT htab hA h1 h2 h1i h2i hz hs2
    go_enter Tryd.func9, Tryd.ntmps9
    go_wp2_with (first | (go_at_call 23; refine HA.out.mono ?_; rintro e_ w1 ⟨N_, rfl, _, _, hb1⟩; have HB := Aside0.mk hb1; clear hb1) | (go_at_call 6; refine (HI.out _ HB.out).mono ?_; rintro e_ w2 ⟨rfl, hb2⟩; replace HB := Aside0.mk (below_step HB.out hb2); clear hb2))
    go_ret2
    exact ⟨rfl, HB.out⟩
  | _ =>
    have HI := Aside0.mk (fun w1 (hb : Below w.heap.size w w1) => impl_FormatInt.callsT 0 w1 (by omega) (hT w1 hb))
    have HA := Aside0.mk (Tryd.strconv_Atoi_syntax s (by omega) hA ev1 w h1 h1i)
    simp only
    obtain ⟨⟨o, b⟩, hq⟩ : ∃ p, fiR 0 = p := ⟨_, rfl⟩
    rw [hq] at HI
    clear hq hT htab hA h1 h2 h1i h2i
    go_enter Tryd.func9, Tryd.ntmps9
    go_wp2_with (first | (go_at_call 23; refine HA.out.mono ?_; rintro e_ w1 ⟨N_, rfl, _, _, hb1⟩; have HB := Aside0.mk hb1; clear hb1) | (go_at_call 6; refine (HI.out _ HB.out).mono ?_; rintro e_ w2 ⟨rfl, hb2⟩; replace HB := Aside0.mk (below_step HB.out hb2); clear hb2))
    go_ret2
    exact ⟨rfl, HB.out⟩
end

/-! ### shared: appendsum -/
section
def acV (s t : ByteArray) : ByteArray × Bool := if s.size ≤ 4000 ∧ decide (0 ≤ Lib.indexByte s.data.toList 35) = false ∧ ((s ++ (⟨#[35]⟩ : ByteArray)) ++ t).size ≤ 4000 then ((s ++ (⟨#[35]⟩ : ByteArray)) ++ t, true) else (⟨#[]⟩, false)
set_option maxHeartbeats 8000000 in
set_option maxRecDepth 100000 in
theorem impl_AppendChecksum.callsT (k : Nat) (s : ByteArray) (h : Int) (w : World) (hc : impl_checksum.f k s = some h) (hr : 0 ≤ h ∧ h ≤ 1000000) (t : ByteArray) (ht : (⟨(Lib.itoa h).toArray⟩ : ByteArray) = t) (htz : t.size ≤ 100) (htab : Lib.TabIs Tryd.prog w "internal/strconv.uint64pow10" .u64 Lib.pow10Tab) :
    Calls Tryd.prog 12 #[.string s] w fun e w' => e = .returned (.tuple #[.string (acV s t).1, .bool (acV s t).2]) ∧ Below w.heap.size w w' := by
  have hT := Lib.tabBelow_of_tabIs htab
  have HT := Aside0.mk hT
  have HC := Aside0.mk hc
  have HR := Aside0.mk hr
  have HE := Aside0.mk ht
  have HB := Aside0.mk (Below.refl w.heap.size w)
  clear htab hT hc hr ht
  by_cases h1 : s.size ≤ 4000
  · have h1b : decide (4000 < (s.size : Int)) = false := decide_eq_false (by omega)
    cases hv : decide (0 ≤ Lib.indexByte s.data.toList 35) with
    | true =>
      have e : acV s t = (⟨#[]⟩, false) := by unfold acV; rw [if_neg (fun hh => by rw [hv] at hh; exact absurd hh.2.1 (by simp))]
      rw [e]
      have HV := Aside0.mk hv
      clear e hv
      go_enter Tryd.func12, Tryd.ntmps12
      go_wp2_with (go_at_call 26; refine (Tryd.strings_Contains_one s 35 _).mono ?_; rintro e_ w1 ⟨rfl, rfl⟩; rw [HV.out])
      go_ret2
      exact ⟨rfl, HB.out⟩
    | false =>
      have HV := Aside0.mk hv
      have hs1 : (9223372036854775807 < s.size + 1) = False := eq_false (by omega)
      have hs2 : (9223372036854775807 < s.size + 1 + t.size) = False := eq_false (by omega)
      have hz1 : (⟨#[35]⟩ : ByteArray).size = 1 := rfl
      have hz : ((s ++ (⟨#[35]⟩ : ByteArray)) ++ t).size = s.size + 1 + t.size := by simp only [ByteArray.size_append]; rw [hz1]
      by_cases h4 : s.size + 1 + t.size ≤ 4000
      · have e : acV s t = ((s ++ (⟨#[35]⟩ : ByteArray)) ++ t, true) := by unfold acV; rw [if_pos ⟨h1, hv, by rw [hz]; exact h4⟩]
        rw [e]
        have h4b : decide (4000 < (s.size : Int) + 1 + (t.size : Int)) = false := decide_eq_false (by omega)
        clear e hv hz hz1
        go_enter Tryd.func12, Tryd.ntmps12
        go_wp2_with (first | (go_at_call 26; refine (Tryd.strings_Contains_one s 35 _).mono ?_; rintro e_ w1 ⟨rfl, rfl⟩; rw [HV.out]) | (go_at_call 27; refine (impl_checksum.calls k s h _ HC.out).mono ?_; rintro e_ w1 ⟨rfl, ⟨n1, rfl⟩⟩; replace HB := Aside0.mk (pw_below_drewN HB.out n1); generalize World.drewN _ n1 = w5 at HB ⊢) | (go_at_call 18; refine (Tryd.strconv_Itoa h (by have := HR.out; omega) (by have := HR.out; omega) _ (HT.out _ HB.out)).mono ?_; rintro e_ w2 ⟨rfl, n2, os2, rfl⟩; rw [HE.out]; replace HB := Aside0.mk (below_step HB.out (Lib.below_grow _ _ (Nat.le_refl _) n2 os2))))
        go_ret2
        exact ⟨rfl, HB.out⟩
      · have e : acV s t = (⟨#[]⟩, false) := by unfold acV; rw [if_neg (fun hh => h4 (by have := hh.2.2; rw [hz] at this; exact this))]
        rw [e]
        have h4b : decide (4000 < (s.size : Int) + 1 + (t.size : Int)) = true := decide_eq_true (by omega)
        clear e hv hz hz1
        go_enter Tryd.func12, Tryd.ntmps12
        go_wp2_with (first | (go_at_call 26; refine (Tryd.strings_Contains_one s 35 _).mono ?_; rintro e_ w1 ⟨rfl, rfl⟩; rw [HV.out]) | (go_at_call 27; refine (impl_checksum.calls k s h _ HC.out).mono ?_; rintro e_ w1 ⟨rfl, ⟨n1, rfl⟩⟩; replace HB := Aside0.mk (pw_below_drewN HB.out n1); generalize World.drewN _ n1 = w5 at HB ⊢) | (go_at_call 18; refine (Tryd.strconv_Itoa h (by have := HR.out; omega) (by have := HR.out; omega) _ (HT.out _ HB.out)).mono ?_; rintro e_ w2 ⟨rfl, n2, os2, rfl⟩; rw [HE.out]; replace HB := Aside0.mk (below_step HB.out (Lib.below_grow _ _ (Nat.le_refl _) n2 os2))))
        go_ret2
        exact ⟨rfl, HB.out⟩
  · have h1b : decide (4000 < (s.size : Int)) = true := decide_eq_true (by omega)
    have e : acV s t = (⟨#[]⟩, false) := by unfold acV; rw [if_neg (fun hh => h1 hh.1)]
    rw [e]
    clear e
    go_enter Tryd.func12, Tryd.ntmps12
    go_wp2
    go_ret2
    exact ⟨rfl, HB.out⟩
end

/-! ### shared: verifysum -/
section
def vcV (s t u : ByteArray) : ByteArray × Bool := if (acV t u).2 = true ∧ (acV t u).1.toList = s.toList then (t, true) else (⟨#[]⟩, false)
set_option maxHeartbeats 8000000 in
set_option maxRecDepth 100000 in
theorem impl_VerifyChecksum.callsT (k : Nat) (s t : ByteArray) (h : Int) (m : Int) (w : World) (hm : w.cell? ⟨2, 0, none⟩ = some (.int .i64 m)) (hsz : s.size ≤ 1048576) (hst : (⟨(Lib.cut s.data.toList [35]).1.toArray⟩ : ByteArray) = t) (hc : impl_checksum.f k t = some h) (hr : 0 ≤ h ∧ h ≤ 1000000) (u : ByteArray) (ht : (⟨(Lib.itoa h).toArray⟩ : ByteArray) = u) (htz : u.size ≤ 100) (htab : Lib.TabIs Tryd.prog w "internal/strconv.uint64pow10" .u64 Lib.pow10Tab) :
    Calls Tryd.prog 14 #[.string s] w fun e w' => e = .returned (.tuple #[.string (vcV s t u).1, .bool (vcV s t u).2]) ∧ Below w.heap.size w w' := by
  have hT := Lib.tabBelow_of_tabIs htab
  have HI := Aside0.mk (fun w1 (hb : Below w.heap.size w w1) => impl_AppendChecksum.callsT k t h w1 hc hr u ht htz (hT w1 hb))
  have HCU := Aside0.mk (Tryd.strings_Cut s ⟨#[35]⟩ m w (by omega) hm)
  obtain ⟨q2, hq2⟩ : ∃ q, (⟨(Lib.cut s.data.toList [35]).2.1.toArray⟩ : ByteArray) = q := ⟨_, rfl⟩
  obtain ⟨q3, hq3⟩ : ∃ q, (Lib.cut s.data.toList [35]).2.2 = q := ⟨_, rfl⟩
  have e35 : (⟨#[35]⟩ : ByteArray).data.toList = [35] := rfl
  rw [e35, hst, hq2, hq3] at HCU
  obtain ⟨⟨o, b⟩, hq⟩ : ∃ p, acV t u = p := ⟨_, rfl⟩
  have HB := Aside0.mk (Below.refl w.heap.size w)
  rw [hq] at HI
  unfold vcV
  rw [hq]
  clear hq hq2 hq3 e35 htab hT hc hr ht htz hst hm
  cases b with
  | false =>
    rw [if_neg (by simp)]
    go_enter Tryd.func14, Tryd.ntmps14
    go_wp2_with (first | (go_at_call 30; refine HCU.out.mono ?_; rintro e_ w1 ⟨rfl, ⟨n1, rfl⟩⟩; replace HB := Aside0.mk (pw_below_drewN HB.out n1); generalize World.drewN _ n1 = w5 at HB ⊢) | (go_at_call 12; refine (HI.out _ HB.out).mono ?_; rintro e_ w2 ⟨rfl, hb2⟩; replace HB := Aside0.mk (below_step HB.out hb2); clear hb2))
    go_ret2
    exact ⟨rfl, HB.out⟩
  | true =>
    by_cases hos : o.toList = s.toList
    · rw [if_pos ⟨rfl, hos⟩]
      have hb0 : (o.toList == s.toList) = true := beq_iff_eq.mpr hos
      clear hos
      go_enter Tryd.func14, Tryd.ntmps14
      go_wp2_with (first | (go_at_call 30; refine HCU.out.mono ?_; rintro e_ w1 ⟨rfl, ⟨n1, rfl⟩⟩; replace HB := Aside0.mk (pw_below_drewN HB.out n1); generalize World.drewN _ n1 = w5 at HB ⊢) | (go_at_call 12; refine (HI.out _ HB.out).mono ?_; rintro e_ w2 ⟨rfl, hb2⟩; replace HB := Aside0.mk (below_step HB.out hb2); clear hb2))
      go_ret2
      exact ⟨rfl, HB.out⟩
    · rw [if_neg (fun hh => hos hh.2)]
      have hb0 : (o.toList == s.toList) = false := beq_eq_false_iff_ne.mpr hos
      clear hos
      go_enter Tryd.func14, Tryd.ntmps14
      go_wp2_with (first | (go_at_call 30; refine HCU.out.mono ?_; rintro e_ w1 ⟨rfl, ⟨n1, rfl⟩⟩; replace HB := Aside0.mk (pw_below_drewN HB.out n1); generalize World.drewN _ n1 = w5 at HB ⊢) | (go_at_call 12; refine (HI.out _ HB.out).mono ?_; rintro e_ w2 ⟨rfl, hb2⟩; replace HB := Aside0.mk (below_step HB.out hb2); clear hb2))
      go_ret2
      exact ⟨rfl, HB.out⟩
end

end Go.Proofs.YtlkddcabjcejdaaDoor.MFnStrings
