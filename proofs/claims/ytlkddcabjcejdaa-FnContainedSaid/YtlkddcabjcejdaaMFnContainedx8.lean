/- Functions that FnContained comes to, a walk for each: by wip/tools/mk.py and post.py. No condition. -/
import Derived.Test.YtlkddcabjcejdaaMFnContainedx0
import Derived.Test.YtlkddcabjcejdaaMFnContainedx4
import Derived.Test.YtlkddcabjcejdaaMFnContainedx5
import Derived.Test.YtlkddcabjcejdaaMFnContainedx6
namespace Go.Proofs.Ytlkddcabjcejdaa.MFnContained
open Go.RowKit Go.Proofs.YtlkddcabjcejdaaW.PrintWords Go.Proofs.YtlkddcabjcejdaaW.PrintLast Go.Proofs.YtlkddcabjcejdaaW.PrintMore
attribute [local go_sem] max2_int min2_int max_two min_two max_three min_three max_four min_four
set_option linter.unusedVariables false
set_option linter.unusedSimpArgs false

/-! ### impl_ShapeOf: function 126 -/
def impl_ShapeOf.l0 : Nat → List Int → List Int → Int → Int → Option (List Int × Bool)
 | 0, _, _, _, _ => none
 | k + 1, x0, x10, x11, x12 => if x12 < x11 then (if 0 ≤ x12 then (if x12 < (x10.length : Int) then (if x12 ≤ (x0.length : Int) then ((slices_Contains_int_int.f k (x0.take (x12 : Int).toNat) (rd x10 x12)).bind fun t300 => (if t300 = true then (some (([] : List Int), false)) else (impl_ShapeOf.l0 k x0 x10 x11 (wrap64 (x12 + 1))))) else (none)) else (none)) else (none)) else ((impl_shape.f k x0).bind fun t301 => (some (t301, true)))
def impl_ShapeOf.f (k : Nat) (l0 : List Int) : Option (List Int × Bool) := (impl_isSize.f (l0.length : Int)).bind fun t294 => (if t294 = true then (impl_ShapeOf.l0 k l0 l0 (l0.length : Int) 0) else (some (([] : List Int), false)))
set_option maxHeartbeats 8000000 in
set_option maxRecDepth 100000 in
theorem impl_ShapeOf.calls (k : Nat) (A0 : Option Addr) (c0 : Nat) (l0 : List Int) (r1 : List Int) (r2 : Bool) (w : World) (hr0 : Kd.C (Kd.int .i64) w A0 l0.length l0) (hc0 : l0.length ≤ c0) (h : impl_ShapeOf.f k l0 = some (r1, r2)) :
 Calls Try.prog 126 #[.slice A0 l0.length c0] w fun e w' => ∃ v0_ : Value, e = .returned (.tuple #[v0_, .bool r2]) ∧ Kd.R (Kd.int .i64) 3 w' w.heap.size (fun _ => True) v0_ r1 ∧ Below w.heap.size w w' := by
 have HR0 := zk hr0
 have HC0 := zk hc0
 clear hr0 hc0
 have HB := zk (Below.refl w.heap.size w)
 have H := h
 unfold impl_ShapeOf.f at H
 clear h
 replace H := Option.bind_eq_some_iff.mp H
 obtain ⟨t294, A20, H⟩ := H
 try dsimp only at H
 have A2 := zk A20
 clear A20
 by_cases c3 : t294 = true
 rotate_left
 · replace c3 := Bool.eq_false_iff.mpr c3
   subst c3
   have H1 : (some (([] : List Int), false)) = some (r1, r2) := by rw [if_neg (show ¬ (false = true) by decide)] at H; exact H
   clear H
   have H := H1
   clear H1
   simp only [Option.some.injEq, Prod.mk.injEq] at H
   obtain ⟨rfl, rfl⟩ := H
   go_enter Try.func126, Try.ntmps126
   go_wp2_with (first | ((with_reducible refine gate_callee (f := 158) rfl ?_); refine zG (some 8) Try.func158 #[.int .i64 (l0.length : Int)] ?_; (with_reducible refine (impl_isSize.calls (l0.length : Int) false _ A2.out).mono ?_); rintro e w' ⟨rfl, ⟨nd, rfl⟩⟩; refine ⟨_, rfl, ?_⟩))
   go_ret2
   exact ⟨_, by first | rfl | (simp [errW_none, errW_some] <;> rfl) | (simp [*, errW_none, errW_some] <;> rfl), by first | exact Kd.R_nil _ _ _ _ _ | exact Kd.N_nil _ _ _ _ _ | exact Kd.V_nil _ _ _ _ _ | exact Kd.Q_nil _ _ _ _ _ | exact Kd.S_nil _ _ _ _ _, by repeat (first | exact HB.out | apply za | apply zd | apply ze)⟩
 subst c3
 have H1 : (impl_ShapeOf.l0 k l0 l0 (l0.length : Int) 0) = some (r1, r2) := by rw [if_pos rfl] at H; exact H
 clear H
 have H := H1
 clear H1
 have H' := zk H
 clear H
 go_enter Try.func126, Try.ntmps126
 go_wp2_with (first | ((with_reducible refine gate_callee (f := 158) rfl ?_); refine zG (some 8) Try.func158 #[.int .i64 (l0.length : Int)] ?_; (with_reducible refine (impl_isSize.calls (l0.length : Int) true _ A2.out).mono ?_); rintro e w' ⟨rfl, ⟨nd, rfl⟩⟩; refine ⟨_, rfl, ?_⟩))
 go_loopg [12] k (fun kq v12 w' => ∃ (x12_1 : Int), v12 = .int .i64 x12_1 ∧ Aside0 (impl_ShapeOf.l0 kq l0 l0 (l0.length : Int) x12_1 = some (r1, r2)) ∧ Aside0 (kq ≤ k) ∧ Aside0 (Below w.heap.size w w'))
 case atStart => exact ⟨(0), (by first | rfl | (simp; done) | (simp [*]; done)), H', ⟨Nat.le_refl _⟩, ⟨by repeat (first | exact HB.out | apply za | apply zd | apply ze)⟩⟩
 case round =>
  clear H'
  try clear c1
  try clear p2
  try clear c3
  obtain ⟨x12_1, rfl, HA, HK1, HB⟩ := hrel
  cases gk with
  | zero => exact absurd HA.out (by simp [impl_ShapeOf.l0])
  | succ k1 =>
   have H := HA.out
   clear HA
   simp only [impl_ShapeOf.l0] at H
   by_cases c4 : x12_1 < (l0.length : Int)
   rotate_left
   · rw [if_neg c4] at H
     have c4b0 := decide_eq_false c4
     clear c4
     replace H := Option.bind_eq_some_iff.mp H
     obtain ⟨t301, A130, H⟩ := H
     try dsimp only at H
     have A13 := zk A130
     clear A130
     simp only [Option.some.injEq, Prod.mk.injEq] at H
     obtain ⟨rfl, rfl⟩ := H
     go_wp2_with (first | ((with_reducible refine gate_callee (f := 161) rfl ?_); refine zG (some 24) Try.func161 #[.slice A0 l0.length c0] ?_; (with_reducible refine (impl_shape.calls k1 _ _ l0 t301 _ ?side1 ?side2 A13.out).mono ?_); (case side1 => exact zC (Kd.C_below HR0.out HB.out)); (case side2 => exact HC0.out); rintro e w14 ⟨v302, rfl, ho0, hb⟩; refine ⟨_, rfl, ?_⟩; have HO303 := zk (Kd.R_lower ho0 (below_size (zB HB))); replace HB := zF HB hb; (try clear hb ho0)))
     go_ret2
     exact ⟨_, by first | rfl | (simp [errW_none, errW_some] <;> rfl) | (simp [*, errW_none, errW_some] <;> rfl), by (with_reducible repeat (first | apply zs | apply zr | apply zt)); exact HO303.out, by repeat (first | exact HB.out | apply za | apply zd | apply ze)⟩
   rw [if_pos c4] at H
   have c4b0 := decide_eq_true c4
   clear c4
   by_cases c5 : 0 ≤ x12_1
   rotate_left
   · rw [if_neg c5] at H
     exact absurd H (by simp)
   rw [if_pos c5] at H
   have c5b0 := decide_eq_true c5
   clear c5
   by_cases c6 : x12_1 < (l0.length : Int)
   rotate_left
   · rw [if_neg c6] at H
     exact absurd H (by simp)
   rw [if_pos c6] at H
   have c6b0 := decide_eq_true c6
   clear c6
   have c7b0 := eq_true (zo (by assumption) : 0 ≤ x12_1)
   by_cases c8 : x12_1 ≤ (l0.length : Int)
   rotate_left
   · rw [if_neg c8] at H
     exact absurd H (by simp)
   rw [if_pos c8] at H
   have c8b0 := eq_true c8
   have c8b1 := decide_eq_true c8
   clear c8
   obtain ⟨y296, hy296⟩ : ∃ y_ : List Int, y_ = (l0.take (x12_1 : Int).toNat) := ⟨_, rfl⟩
   rw [← hy296] at H
   try rw [zO y296] at H
   try dsimp only at H
   have Ny296 := zk hy296
   clear hy296
   replace H := Option.bind_eq_some_iff.mp H
   obtain ⟨t300, A90, H⟩ := H
   try dsimp only at H
   have A9 := zk A90
   clear A90
   by_cases c10 : t300 = true
   rotate_left
   · replace c10 := Bool.eq_false_iff.mpr c10
     subst c10
     have H1 : (impl_ShapeOf.l0 k1 l0 l0 (l0.length : Int) (wrap64 (x12_1 + 1))) = some (r1, r2) := by rw [if_neg (show ¬ (false = true) by decide)] at H; exact H
     clear H
     have H := H1
     clear H1
     have H' := zk H
     clear H
     have p295 : 0 ≤ (x12_1 : Int) := zo (by assumption)
     have q295 : x12_1 < (l0.length : Int) := zo (by assumption)
     obtain ⟨ad295, e295, hx295_0⟩ := Kd.at_int HR0.out x12_1 p295 q295
     cases e295
     replace hx295_0 := (HB.out.cell (World.block_lt_of_cell? w _ hx295_0)).trans hx295_0
     replace p295 := eq_true p295
     replace q295 := eq_true q295
     have q12 : (x12_1 : Int) ≤ ((l0.length : Int) : Int) := zo (by assumption)
     obtain ⟨i012, hi012, _, hsz12, _⟩ := info_parts info3
     have hroom12 : l0.length ≤ c0 := HC0.out
     have hC12 : Kd.C (Kd.int .i64) _ (some ad295) l0.length l0 := HR0.out
     have hcut12 := cut_to (P := Try.prog) 22 3 .i64 Try.underlying22 hi012 (some ad295) l0.length c0 x12_1 (zo (by assumption)) q12 hroom12
     have hr12 := Kd.C_take (m := (x12_1 : Int).toNat) hC12 (by omega)
     have hy12 : y296.length = (x12_1 : Int).toNat := (by rw [Ny296.out, List.length_take]; omega)
     rw [← Ny296.out] at hr12
     rw [← hy12] at hcut12
     have HR299 := zk hr12
     have HC299 := zk (show y296.length ≤ c0 from by omega)
     clear hr12 hC12 hroom12 hi012 hsz12
     have KY12 := zk hy12
     clear hy12
     replace q12 := eq_true q12
     go_wp2_with (first | ((with_reducible refine gate_callee (f := 236) rfl ?_); refine zG (some 21) Try.func236 #[.slice (some ad295) y296.length c0, .int .i64 (rd l0 x12_1)] ?_; (with_reducible refine (slices_Contains_int_int.calls k1 _ _ y296 (rd l0 x12_1) false _ ?side1 ?side2 A9.out).mono ?_); (case side1 => exact zC (Kd.C_below HR299.out HB.out)); (case side2 => exact HC299.out); rintro e w' ⟨rfl, ⟨nd, rfl⟩⟩; refine ⟨_, rfl, ?_⟩))
     go_roundg k1
     case measure => have := HK1.out; omega
     case rel => exact ⟨(wrap64 (x12_1 + 1)), (by first | rfl | (simp; done) | (simp [*]; done)), H', ⟨by have := HK1.out; omega⟩, ⟨by repeat (first | exact HB.out | apply za | apply zd | apply ze)⟩⟩
   subst c10
   have H1 : (some (([] : List Int), false)) = some (r1, r2) := by rw [if_pos rfl] at H; exact H
   clear H
   have H := H1
   clear H1
   simp only [Option.some.injEq, Prod.mk.injEq] at H
   obtain ⟨rfl, rfl⟩ := H
   have p295 : 0 ≤ (x12_1 : Int) := zo (by assumption)
   have q295 : x12_1 < (l0.length : Int) := zo (by assumption)
   obtain ⟨ad295, e295, hx295_0⟩ := Kd.at_int HR0.out x12_1 p295 q295
   cases e295
   replace hx295_0 := (HB.out.cell (World.block_lt_of_cell? w _ hx295_0)).trans hx295_0
   replace p295 := eq_true p295
   replace q295 := eq_true q295
   have q11 : (x12_1 : Int) ≤ ((l0.length : Int) : Int) := zo (by assumption)
   obtain ⟨i011, hi011, _, hsz11, _⟩ := info_parts info3
   have hroom11 : l0.length ≤ c0 := HC0.out
   have hC11 : Kd.C (Kd.int .i64) _ (some ad295) l0.length l0 := HR0.out
   have hcut11 := cut_to (P := Try.prog) 22 3 .i64 Try.underlying22 hi011 (some ad295) l0.length c0 x12_1 (zo (by assumption)) q11 hroom11
   have hr11 := Kd.C_take (m := (x12_1 : Int).toNat) hC11 (by omega)
   have hy11 : y296.length = (x12_1 : Int).toNat := (by rw [Ny296.out, List.length_take]; omega)
   rw [← Ny296.out] at hr11
   rw [← hy11] at hcut11
   have HR299 := zk hr11
   have HC299 := zk (show y296.length ≤ c0 from by omega)
   clear hr11 hC11 hroom11 hi011 hsz11
   have KY11 := zk hy11
   clear hy11
   replace q11 := eq_true q11
   go_wp2_with (first | ((with_reducible refine gate_callee (f := 236) rfl ?_); refine zG (some 21) Try.func236 #[.slice (some ad295) y296.length c0, .int .i64 (rd l0 x12_1)] ?_; (with_reducible refine (slices_Contains_int_int.calls k1 _ _ y296 (rd l0 x12_1) true _ ?side1 ?side2 A9.out).mono ?_); (case side1 => exact zC (Kd.C_below HR299.out HB.out)); (case side2 => exact HC299.out); rintro e w' ⟨rfl, ⟨nd, rfl⟩⟩; refine ⟨_, rfl, ?_⟩))
   go_ret2
   exact ⟨_, by first | rfl | (simp [errW_none, errW_some] <;> rfl) | (simp [*, errW_none, errW_some] <;> rfl), by first | exact Kd.R_nil _ _ _ _ _ | exact Kd.N_nil _ _ _ _ _ | exact Kd.V_nil _ _ _ _ _ | exact Kd.Q_nil _ _ _ _ _ | exact Kd.S_nil _ _ _ _ _, by repeat (first | exact HB.out | apply za | apply zd | apply ze)⟩

/-! ### impl_countPlaces: function 234 -/
section
open Go.Proofs.Ytlkddcabjcejdaa.Base
set_option maxHeartbeats 8000000 in
set_option maxRecDepth 100000 in
theorem choose_add_cp {σ : Type} (f : σ → List Int → σ × Bool) (I : σ → World → Prop) (S : Nat → Prop) (c1_ c2_ c3_ : Value) (n many bS gm gw gn ga : Nat)
 (hI : ∀ s W W', I s W → Below W.heap.size W W' → I s W')
 (hcb : ∀ s W A c xs, I s W → bS ≤ W.heap.size → Kd.R (Kd.int .i64) 3 W bS (fun k => ¬ S k) (.slice A xs.length c) xs → xs.length = many → (∀ x ∈ xs, 0 ≤ x ∧ x < (n : Int)) → Calls Try.prog 264 #[.slice A xs.length c, c1_, c2_, c3_] W fun e w' => e = .returned (.bool (f s xs).2) ∧ I (f s xs).1 w' ∧ Fr S W w')
 (hSlt : ∀ k, S k → k < bS) (hs1 : ¬ S gm) (hs2 : ¬ S gw) (hs3 : ¬ S gn) (hs4 : ¬ S ga) (hn : n < 1073741824) :
 ∀ (r : Nat) (A : Option Addr) (c : Nat) (xs : List Int) (s : σ) (W : World), xs.length + r ≤ n → (∀ x ∈ xs, 0 ≤ x ∧ x < (n : Int)) → I s W → bS ≤ W.heap.size →
  Ch 3 27 39 W gm gw gn ga (.int .i64 (many : Int)) (.func (.func 264) #[] #[c1_, c2_, c3_]) (.int .i64 (n : Int)) (.func (.func 247) #[] #[.pointer (some ⟨gm, 0, none⟩), .pointer (some ⟨gw, 0, none⟩), .pointer (some ⟨gn, 0, none⟩), .pointer (some ⟨ga, 0, none⟩)]) →
  Kd.R (Kd.int .i64) 3 W bS (fun k => ¬ S k) (.slice A xs.length c) xs →
  Calls Try.prog 247 #[.slice A xs.length c, .int .i64 ((n - r : Nat) : Int), .pointer (some ⟨gm, 0, none⟩), .pointer (some ⟨gw, 0, none⟩), .pointer (some ⟨gn, 0, none⟩), .pointer (some ⟨ga, 0, none⟩)] W fun e w' => e = .returned (.bool (addG f n many r xs s).2) ∧ I (addG f n many r xs s).1 w' ∧ Fr S W w' := by
 have HII := zk hI
 have HCB := zk hcb
 clear hI hcb
 intro r
 induction r using Nat.strongRecOn with
 | ind r IH =>
  have HIH := zk IH
  clear IH
  intro A c xs s W hxr hxq hIs hbs hch hr
  have HCh0 := zk hch
  have HR0 := zk hr
  have HXQ := zk hxq
  clear hxq
  have HI0 := zk hIs
  clear hch hr hIs
  have cM := cell_of_one HCh0.out.hm
  have cW := cell_of_one HCh0.out.hw
  by_cases hm : xs.length = many
  · have hmb : ((xs.length : Int) == (many : Int)) = true := by simp [hm]
    have ea : addG f n many r xs s = f s xs := by unfold addG; rw [if_pos hm]
    rw [ea]
    have HM := zk hm
    clear hm ea
    go_enter Try.func247, Try.ntmps247
    go_wp2_with (go_at_call 264; refine (HCB.out s W A c xs HI0.out hbs HR0.out HM.out HXQ.out).mono ?_; rintro e_ w2 ⟨rfl, h1, h2⟩; have HX := zk (And.intro h1 h2); clear h1 h2)
    go_ret
    exact ⟨rfl, HX.out⟩
  · have hmb : ((xs.length : Int) == (many : Int)) = false := by simp; omega
    have ea : addG f n many r xs s = loopG f n many r xs s := by unfold addG; rw [if_neg hm]
    rw [ea]
    clear cW
    obtain ⟨R, hR⟩ : ∃ R, loopG f n many r xs s = R := ⟨_, rfl⟩
    rw [hR]
    have HP := zk hR
    clear hR ea
    go_enter Try.func247, Try.ntmps247
    go_wp2
    go_loopg [9] r (fun kq v9 wr => ∃ (r1 : Nat) (s1 : σ), v9 = .int .i64 ((n - r1 : Nat) : Int) ∧ kq = r1 ∧ r1 ≤ r ∧ Aside0 (loopG f n many r1 xs s1 = R) ∧ Aside0 (I s1 wr) ∧ Aside0 (Fr S W wr))
    case atStart => exact ⟨r, s, rfl, rfl, Nat.le_refl _, HP, HI0, ⟨Fr.refl _ _⟩⟩
    case round =>
     clear HP HI0 cM
     obtain ⟨r1, s1, rfl, hkq, hrr, HP, HI, HF⟩ := hrel
     obtain rfl : r1 = gk := hkq.symm
     have HCh := zk (HCh0.out.fr HF.out hs1 hs2 hs3 hs4)
     have HR := zk (R_fr HR0.out HF.out)
     have cN := cell_of_one HCh.out.hn
     cases r1 with
     | zero =>
      have e := HP.out
      simp only [loopG] at e
      subst e
      go_wp2
      go_ret
      exact ⟨rfl, HI.out, HF.out⟩
     | succ r1 =>
      have hlt : ((n - (r1 + 1) : Nat) : Int) < (n : Int) := by omega
      have hltb : decide (((n - (r1 + 1) : Nat) : Int) < (n : Int)) = true := decide_eq_true hlt
      have hw64 : wrap64 (((n - (r1 + 1) : Nat) : Int) + 1) = ((n - r1 : Nat) : Int) := by unfold wrap64; omega
      have HW64 := zk hw64
      clear hw64
      go_upto_region 6 with (fail)
      have hw64 := HW64.out
      refine start_ (n := 9) (S := fun w' => w'.cell? ⟨ga, 0, none⟩ = some (Value.func (Fn.func 247) #[] #[.pointer (some ⟨gm, 0, none⟩), .pointer (some ⟨gw, 0, none⟩), .pointer (some ⟨gn, 0, none⟩), .pointer (some ⟨ga, 0, none⟩)])) (ds := []) #[false, false, false, false, false, false, false, false, false] (by kernel_rfl) rfl rfl (cell_of_one HCh.out.ha) (fun hHeld => ?_)
      have HR := zk (zt HR.out)
      have HCh := zk (HCh.out.fr (S := S) (Fr.of_below (below_drew (Below.refl _ _))) hs1 hs2 hs3 hs4)
      replace HF := zk (HF.out.trans (Fr.of_below (below_drew (Below.refl _ _))))
      replace HI := zk (HII.out _ _ _ HI.out (below_drew (Below.refl _ _)))
      generalize World.drew _ = w1 at HF HI HR HCh hHeld ⊢
      have HB := zk (Below.refl w1.heap.size w1)
      refine zP (i := 1) (N := some 24) #[false, true, false, false, false, false, false, false, false] ?_
      refine zP (i := 3) (N := some 26) #[false, true, false, true, false, false, false, false, false] ?_
      refine zP (i := 6) (N := some 29) #[false, true, false, true, false, false, true, false, false] ?_
      refine zP (i := 7) (N := some 30) #[false, true, false, true, false, false, true, true, false] ?_
      refine take_ (i := 0) (N := some 23) (v := ?_) (a' := ?_) #[true, true, false, true, false, false, true, true, false] rfl rfl (by kernel_rfl) (fun _ _ _ h => h) (Or.inl ⟨by rfl, ?_⟩) hHeld ?_ ?_
      rotate_left
      · intro w' s0
        go_simp
        with_reducible rfl
      rotate_left
      · exact zQ
      refine join_ (σ := Value × Value) 2 #[true, true, true, true, true, false, true, true, false] (fun s_ => [(25, s_.1), (27, s_.2)]) (fun s_ w' => (w'.cell? ⟨ga, 0, none⟩ = some (Value.func (Fn.func 247) #[] #[.pointer (some ⟨gm, 0, none⟩), .pointer (some ⟨gw, 0, none⟩), .pointer (some ⟨gn, 0, none⟩), .pointer (some ⟨ga, 0, none⟩)])) ∧ Aside0 (Below w1.heap.size w1 w') ∧ Aside0 (Kd.R (Kd.int .i64) 3 w' w1.heap.size (fun _ => True) s_.1 xs) ∧ Aside0 (Kd.R (Kd.int .i64) 3 w' w1.heap.size (fun _ => True) s_.2 [((n - (r1 + 1) : Nat) : Int)])) ?_ ?_
      rotate_left
      · intro hCont
        refine two_ (i := 2) (j := 4) (Ni := some 25) (Nj := some 27) #[true, true, true, true, false, false, true, true, false] #[true, true, false, true, true, false, true, true, false] rfl rfl rfl rfl (by kernel_rfl) (by decide) (by decide) (fun K hK => ?_) (fun K hK => ?_)
        · skip
          refine goes_ Try.func248 (by kernel_rfl) rfl #[.slice A xs.length c] (by rfl) rfl rfl (by simp only [List.map_toArray, List.map_cons, List.map_nil]; rfl) ?_
          with_reducible refine (slices_Clone_int_int.calls A c xs xs _ (Kd.R_reads' (Kd.R_below HR.out HB.out)).2.2 (Kd.R_reads' HR.out).2.1 (by unfold slices_Clone_int_int.f; rw [if_pos (by omega)])).mono ?_
          rintro e_ w3 ⟨v25, rfl, hR25, hb3⟩
          have hz2 := HB.out.size
          have HR25 := zk (Kd.R_lower hR25 hz2)
          replace HB := zk (below_step HB.out hb3)
          clear hz2 hR25 hb3
          refine ⟨_, rfl, ?_⟩
          refine hK.out _ _ (cell_of_one (HCh.out.fr (Fr.of_below (S := S) HB.out) hs1 hs2 hs3 hs4).ha) (fun hHeld => ?_)
          clear hK K
          refine zM 25 ?_
          refine one_ (i := 4) (N := some 27) #[true, true, true, true, true, false, true, true, false] rfl rfl (by kernel_rfl) (by decide) (fun K hK => ?_)
          have hz4 := HB.out.size
          refine Kd.R_lit_step (Kd.int .i64) _ 3 ?hg (N := 27) ?hd (xs := ([((n - (r1 + 1) : Nat) : Int)] : List Int)) (inner := [.int .i64 ((n - (r1 + 1) : Nat) : Int)]) (ok := fun _ => True) (okp := fun _ => True) ?hr ?hp (fun _ hk => hk) trivial (Below.refl _ _) (Nat.le_refl _) (by simp) ?_; (case hd => rfl); (case hg => rfl); (case hr => first | (go_simp; done) | (go_simp; rfl)); (case hp => exact (Reps.one (show Kd.M (Kd.int .i64) _ _ _ _ [.int .i64 _] from rfl) (Reps.none _ _)))
          intro v27 w4 hL4 hb4 hg4 hn4
          have HL27 := zk (Kd.R_lower hL4 hz4)
          replace HR25 := zk (Kd.R_below HR25.out hb4)
          replace HB := zk (below_step HB.out hb4)
          clear hz4 hL4 hb4 hg4 hn4
          refine hK.out _ _ (cell_of_one (HCh.out.fr (Fr.of_below (S := S) HB.out) hs1 hs2 hs3 hs4).ha) (fun hHeld => ?_)
          clear hK K
          refine zM 27 ?_
          exact norm_ (by simp only [putAll, Act.put, List.setIfInBounds_toArray, List.set_cons_zero, List.set_cons_succ]) (hCont (v25, v27) _ ⟨hHeld, HB, HR25, HL27⟩)
        · skip
          have hz4 := HB.out.size
          refine Kd.R_lit_step (Kd.int .i64) _ 3 ?hg (N := 27) ?hd (xs := ([((n - (r1 + 1) : Nat) : Int)] : List Int)) (inner := [.int .i64 ((n - (r1 + 1) : Nat) : Int)]) (ok := fun _ => True) (okp := fun _ => True) ?hr ?hp (fun _ hk => hk) trivial (Below.refl _ _) (Nat.le_refl _) (by simp) ?_; (case hd => rfl); (case hg => rfl); (case hr => first | (go_simp; done) | (go_simp; rfl)); (case hp => exact (Reps.one (show Kd.M (Kd.int .i64) _ _ _ _ [.int .i64 _] from rfl) (Reps.none _ _)))
          intro v27 w4 hL4 hb4 hg4 hn4
          have HL27 := zk (Kd.R_lower hL4 hz4)
          replace HB := zk (below_step HB.out hb4)
          clear hz4 hL4 hb4 hg4 hn4
          refine hK.out _ _ (cell_of_one (HCh.out.fr (Fr.of_below (S := S) HB.out) hs1 hs2 hs3 hs4).ha) (fun hHeld => ?_)
          clear hK K
          refine zM 27 ?_
          refine one_ (i := 2) (N := some 25) #[true, true, true, true, true, false, true, true, false] rfl rfl (by kernel_rfl) (by decide) (fun K hK => ?_)
          refine goes_ Try.func248 (by kernel_rfl) rfl #[.slice A xs.length c] (by rfl) rfl rfl (by simp only [List.map_toArray, List.map_cons, List.map_nil]; rfl) ?_
          with_reducible refine (slices_Clone_int_int.calls A c xs xs _ (Kd.R_reads' (Kd.R_below HR.out HB.out)).2.2 (Kd.R_reads' HR.out).2.1 (by unfold slices_Clone_int_int.f; rw [if_pos (by omega)])).mono ?_
          rintro e_ w3 ⟨v25, rfl, hR25, hb3⟩
          have hz2 := HB.out.size
          have HR25 := zk (Kd.R_lower hR25 hz2)
          replace HL27 := zk (Kd.R_below HL27.out hb3)
          replace HB := zk (below_step HB.out hb3)
          clear hz2 hR25 hb3
          refine ⟨_, rfl, ?_⟩
          refine hK.out _ _ (cell_of_one (HCh.out.fr (Fr.of_below (S := S) HB.out) hs1 hs2 hs3 hs4).ha) (fun hHeld => ?_)
          clear hK K
          refine zM 25 ?_
          exact norm_ (by simp only [putAll, Act.put, List.setIfInBounds_toArray, List.set_cons_zero, List.set_cons_succ]) (hCont (v25, v27) _ ⟨hHeld, HB, HR25, HL27⟩)
      clear HB hHeld
      rintro ⟨v25, v27⟩ w6 ⟨hHeld, HB, HR25, HL27⟩
      obtain ⟨A25, c25, e25⟩ := Kd.R_slice HR25.out
      obtain ⟨A27, c27, e27⟩ := Kd.R_slice HL27.out
      simp only at e25 e27
      subst e25
      subst e27
      refine norm_ (a' := ?_) ?_ ?_
      rotate_left
      · simp only [putAll, Act.put, List.setIfInBounds_toArray, List.set_cons_zero, List.set_cons_succ]
        rfl
      refine one_ (i := 5) (N := some 28) #[true, true, true, true, true, true, true, true, false] rfl rfl (by kernel_rfl) (by decide) (fun K hK => ?_)
      refine Kd.R_append_rows_step (Kd.int .i64) (w0 := w1) w1.heap.size (by rfl) (.tmp 25) (.tmp 27) 22 3 (.int .i64 0) 8 rfl Try.underlying22 info3 rfl (by decide) (by omega) (.slice A25 xs.length c25) xs [((n - (r1 + 1) : Nat) : Int)] _ _ _ (fun _ => True) (fun _ => False) rfl rfl HR25.out (Kd.R_reads' HL27.out).2.2 (fun _ _ h => h) (fun _ h => h.elim) (fun _ _ => trivial) HB.out HB.out.size (by simp only [List.length_cons, List.length_nil]; omega) ?_
      intro v28 w7 ho7 hb7 hg7 hat7
      obtain ⟨A28, c28, e28⟩ := Kd.R_slice ho7
      subst e28
      replace HB := zk hb7
      have HR28 := zk ho7
      clear hat7 hg7 hb7 ho7 HL27 HR25
      refine hK.out _ _ (cell_of_one (HCh.out.fr (Fr.of_below (S := S) HB.out) hs1 hs2 hs3 hs4).ha) (fun hHeld => ?_)
      clear hK K
      refine zM 28 ?_
      refine one_ (i := 8) (N := some 31) #[true, true, true, true, true, true, true, true, true] rfl rfl (by kernel_rfl) (by decide) (fun K hK => ?_)
      obtain ⟨P8, hP8⟩ : ∃ p, addG f n many r1 (xs ++ [((n - (r1 + 1) : Nat) : Int)]) s1 = p := ⟨_, rfl⟩
      have hbw : bS ≤ w1.heap.size := Nat.le_trans hbs HF.out.size
      have HC7 := zk (HCh.out.fr (S := S) (Fr.of_below HB.out) hs1 hs2 hs3 hs4)
      have HR7 := zk (show Kd.R (Kd.int .i64) 3 w7 bS (fun k => ¬ S k) (.slice A28 (xs ++ [((n - (r1 + 1) : Nat) : Int)]).length c28) (xs ++ [((n - (r1 + 1) : Nat) : Int)]) from Kd.R_of_own (Kd.own_of_R (Kd.R_lower HR28.out hbw)) (fun k hk hs => by have := Kd.R_base HR28.out k hk; have := hSlt k hs; omega))
      have H8 := HIH.out r1 (by omega) A28 c28 (xs ++ [((n - (r1 + 1) : Nat) : Int)]) s1 w7 (by simp; omega) (fun x hx => by rcases List.mem_append.1 hx with hx | hx; exact HXQ.out x hx; (have hx := List.mem_singleton.1 hx; omega)) (HII.out _ _ _ HI.out HB.out) (Nat.le_trans hbw HB.out.size) HC7.out HR7.out
      rw [← hw64] at H8
      refine call_ 247 #[.slice A28 (xs ++ [((n - (r1 + 1) : Nat) : Int)]).length c28, .int .i64 (wrap64 (((n - (r1 + 1) : Nat) : Int) + 1)), .pointer (some ⟨gm, 0, none⟩), .pointer (some ⟨gw, 0, none⟩), .pointer (some ⟨gn, 0, none⟩), .pointer (some ⟨ga, 0, none⟩)] (by rfl) rfl ?hrun8 ?_; (case hrun8 => clear H8; go_simp; (try rfl); trace_state)
      with_reducible refine H8.mono ?_
      rintro e8 w8 ⟨he8, hI8, hF8⟩
      rw [hP8] at he8 hI8
      subst he8
      obtain ⟨s8, b8⟩ := P8
      simp only at hI8
      have HX := zk (And.intro hI8 hF8)
      have HC8 := zk (HC7.out.fr hF8 hs1 hs2 hs3 hs4)
      have HP8 := zk hP8
      clear hI8 hF8 H8 hP8
      refine ⟨_, rfl, ?_⟩
      refine hK.out _ _ (cell_of_one HC8.out.ha) (fun hHeld => ?_)
      clear hK K
      refine zM 31 ?_
      refine done_ (by kernel_rfl) ?_
      have e := HP.out
      rw [loopG_succ, HP8.out] at e
      have HFF := zk (HF.out.trans ((Fr.of_below HB.out).trans HX.out.2))
      have HI8 := zk HX.out.1
      cases b8 with
      | true =>
       simp only [if_true] at e
       subst e
       try go_wp2
       go_ret
       exact ⟨rfl, HI8.out, HFF.out⟩
      | false =>
       simp only [Bool.false_eq_true, if_false] at e
       have HE := zk e
       clear e
       try go_wp2
       go_roundg r1
       case measure => omega
       case rel => exact ⟨r1, s8, by simp [hw64]; omega, rfl, by omega, HE, HI8, HFF⟩
set_option maxHeartbeats 8000000 in
set_option maxRecDepth 100000 in
theorem choose_calls_cp {σ : Type} (f : σ → List Int → σ × Bool) (I : σ → World → Prop) (S : Nat → Prop) (c1_ c2_ c3_ : Value) (n many : Nat) (s : σ) (w : World)
 (hI : ∀ s W W', I s W → Below W.heap.size W W' → I s W')
 (hcb : ∀ s W A c xs, I s W → w.heap.size ≤ W.heap.size → Kd.R (Kd.int .i64) 3 W w.heap.size (fun k => ¬ S k) (.slice A xs.length c) xs → xs.length = many → (∀ x ∈ xs, 0 ≤ x ∧ x < (n : Int)) → Calls Try.prog 264 #[.slice A xs.length c, c1_, c2_, c3_] W fun e w' => e = .returned (.bool (f s xs).2) ∧ I (f s xs).1 w' ∧ Fr S W w')
 (hSlt : ∀ k, S k → k < w.heap.size) (hn : n < 1073741824) (hs : I s w) :
 Calls Try.prog 159 #[.int .i64 (n : Int), .int .i64 (many : Int), .func (.func 264) #[] #[c1_, c2_, c3_]] w fun e w' => e = .returned (.tuple #[]) ∧ I (addG f n many n [] s).1 w' ∧ Fr S w w' := by
 have hmf : ∀ (fn : Fn) (first cap : Array Value) (w : World), (Instr.makeFunc fn first cap).run Try.prog w = .ok (.func fn first cap) w := fun _ _ _ _ => rfl
 have HII := zk hI
 have HCB := zk hcb
 have HS := zk hSlt
 have HI := zk hs
 clear hI hcb hSlt hs
 have z1 : ∀ (W : World) (o : Obj), (W.alloc o).heap.size = W.heap.size + 1 := fun W o => by simp
 have hga : ((((w.alloc (Obj.cells #[Value.int IntKind.i64 ↑n]  3)).alloc (Obj.cells #[Value.int IntKind.i64 ↑many]  3)).alloc (Obj.cells #[Value.func (Fn.func 264) #[] #[c1_, c2_, c3_]] 27)).alloc (Obj.cells #[Value.nilFunc] 39)).heap[w.heap.size + 1 + 1 + 1]? = some (.cells #[Value.nilFunc] 39 (0, 0)) := by
  have := blk_new (((w.alloc (Obj.cells #[Value.int IntKind.i64 ↑n]  3)).alloc (Obj.cells #[Value.int IntKind.i64 ↑many]  3)).alloc (Obj.cells #[Value.func (Fn.func 264) #[] #[c1_, c2_, c3_]] 27)) (Obj.cells #[Value.nilFunc] 39)
  rwa [z1, z1, z1] at this
 have zc := cell_of_one hga
 have zf := free_of_one hga
 clear hga
 have hst : ∀ (fn : Fn) (x y : Array Value) (a : Addr) (W : World), (store a (.func fn x y)).run Try.prog W = stored Try.prog W a (.func fn x y) .plain := fun fn x y a W => run_store Try.prog W a _ .plain rfl
 have hbel : Below w.heap.size w (((((w.alloc (Obj.cells #[Value.int IntKind.i64 ↑n]  3)).alloc (Obj.cells #[Value.int IntKind.i64 ↑many]  3)).alloc (Obj.cells #[Value.func (Fn.func 264) #[] #[c1_, c2_, c3_]] 27)).alloc (Obj.cells #[(Value.func (Fn.func 247) #[] #[Value.pointer (some { block := w.heap.size + 1, off := 0 }), Value.pointer (some { block := w.heap.size + 1 + 1, off := 0 }), Value.pointer (some { block := w.heap.size, off := 0 }), Value.pointer (some { block := w.heap.size + 1 + 1 + 1, off := 0 })])] 39)).alloc (Obj.cells #[]  3)) := za (za (za (za (za (Below.refl _ _) _) _) _) _) _
 have hch : Ch 3 27 39 (((((w.alloc (Obj.cells #[Value.int IntKind.i64 ↑n]  3)).alloc (Obj.cells #[Value.int IntKind.i64 ↑many]  3)).alloc (Obj.cells #[Value.func (Fn.func 264) #[] #[c1_, c2_, c3_]] 27)).alloc (Obj.cells #[(Value.func (Fn.func 247) #[] #[Value.pointer (some { block := w.heap.size + 1, off := 0 }), Value.pointer (some { block := w.heap.size + 1 + 1, off := 0 }), Value.pointer (some { block := w.heap.size, off := 0 }), Value.pointer (some { block := w.heap.size + 1 + 1 + 1, off := 0 })])] 39)).alloc (Obj.cells #[]  3)) (w.heap.size + 1) (w.heap.size + 1 + 1) w.heap.size (w.heap.size + 1 + 1 + 1) (.int .i64 (many : Int)) (.func (.func 264) #[] #[c1_, c2_, c3_]) (.int .i64 (n : Int)) (Value.func (Fn.func 247) #[] #[Value.pointer (some { block := w.heap.size + 1, off := 0 }), Value.pointer (some { block := w.heap.size + 1 + 1, off := 0 }), Value.pointer (some { block := w.heap.size, off := 0 }), Value.pointer (some { block := w.heap.size + 1 + 1 + 1, off := 0 })]) := by
  refine ⟨?_, ?_, ?_, ?_⟩
  · exact blk_alloc (blk_alloc (blk_alloc (by have := blk_new (w.alloc (Obj.cells #[Value.int IntKind.i64 ↑n]  3)) (Obj.cells #[Value.int IntKind.i64 ↑many]  3); rwa [z1] at this) _) _) _
  · exact blk_alloc (blk_alloc (by have := blk_new ((w.alloc (Obj.cells #[Value.int IntKind.i64 ↑n]  3)).alloc (Obj.cells #[Value.int IntKind.i64 ↑many]  3)) (Obj.cells #[Value.func (Fn.func 264) #[] #[c1_, c2_, c3_]] 27); rwa [z1, z1] at this) _) _
  · exact blk_alloc (blk_alloc (blk_alloc (blk_alloc (blk_new w (Obj.cells #[Value.int IntKind.i64 ↑n]  3)) _) _) _) _
  · exact blk_alloc (by have := blk_new (((w.alloc (Obj.cells #[Value.int IntKind.i64 ↑n]  3)).alloc (Obj.cells #[Value.int IntKind.i64 ↑many]  3)).alloc (Obj.cells #[Value.func (Fn.func 264) #[] #[c1_, c2_, c3_]] 27)) (Obj.cells #[(Value.func (Fn.func 247) #[] #[Value.pointer (some { block := w.heap.size + 1, off := 0 }), Value.pointer (some { block := w.heap.size + 1 + 1, off := 0 }), Value.pointer (some { block := w.heap.size, off := 0 }), Value.pointer (some { block := w.heap.size + 1 + 1 + 1, off := 0 })])] 39); rwa [z1, z1, z1] at this) _
 have hrow : Kd.R (Kd.int .i64) 3 (((((w.alloc (Obj.cells #[Value.int IntKind.i64 ↑n]  3)).alloc (Obj.cells #[Value.int IntKind.i64 ↑many]  3)).alloc (Obj.cells #[Value.func (Fn.func 264) #[] #[c1_, c2_, c3_]] 27)).alloc (Obj.cells #[(Value.func (Fn.func 247) #[] #[Value.pointer (some { block := w.heap.size + 1, off := 0 }), Value.pointer (some { block := w.heap.size + 1 + 1, off := 0 }), Value.pointer (some { block := w.heap.size, off := 0 }), Value.pointer (some { block := w.heap.size + 1 + 1 + 1, off := 0 })])] 39)).alloc (Obj.cells #[]  3)) w.heap.size (fun k => ¬ S k) (.slice (some { block := w.heap.size + 1 + 1 + 1 + 1, off := 0 }) ([] : List Int).length 0) [] :=
  Kd.R_of_own ⟨rfl, Or.inr ⟨w.heap.size + 1 + 1 + 1 + 1, 0, #[], rfl, by omega, by have := blk_new ((((w.alloc (Obj.cells #[Value.int IntKind.i64 ↑n]  3)).alloc (Obj.cells #[Value.int IntKind.i64 ↑many]  3)).alloc (Obj.cells #[Value.func (Fn.func 264) #[] #[c1_, c2_, c3_]] 27)).alloc (Obj.cells #[(Value.func (Fn.func 247) #[] #[Value.pointer (some { block := w.heap.size + 1, off := 0 }), Value.pointer (some { block := w.heap.size + 1 + 1, off := 0 }), Value.pointer (some { block := w.heap.size, off := 0 }), Value.pointer (some { block := w.heap.size + 1 + 1 + 1, off := 0 })])] 39)) (Obj.cells #[]  3); rwa [z1, z1, z1, z1] at this, Nat.le_refl _, Nat.zero_le _, rfl, rfl⟩⟩ (fun k hk hs => by
   have h1 := HS.out k hs
   have h2 : w.heap.size + 1 + 1 + 1 + 1 = k := by simpa [Value.ownBlock] using hk
   omega)
 have H := choose_add_cp f I S c1_ c2_ c3_ n many w.heap.size (w.heap.size + 1) (w.heap.size + 1 + 1) w.heap.size (w.heap.size + 1 + 1 + 1) HII.out HCB.out HS.out (fun h => by have := HS.out _ h; omega) (fun h => by have := HS.out _ h; omega) (fun h => by have := HS.out _ h; omega) (fun h => by have := HS.out _ h; omega) hn n (some { block := w.heap.size + 1 + 1 + 1 + 1, off := 0 }) 0 [] s (((((w.alloc (Obj.cells #[Value.int IntKind.i64 ↑n]  3)).alloc (Obj.cells #[Value.int IntKind.i64 ↑many]  3)).alloc (Obj.cells #[Value.func (Fn.func 264) #[] #[c1_, c2_, c3_]] 27)).alloc (Obj.cells #[(Value.func (Fn.func 247) #[] #[Value.pointer (some { block := w.heap.size + 1, off := 0 }), Value.pointer (some { block := w.heap.size + 1 + 1, off := 0 }), Value.pointer (some { block := w.heap.size, off := 0 }), Value.pointer (some { block := w.heap.size + 1 + 1 + 1, off := 0 })])] 39)).alloc (Obj.cells #[]  3)) (by simp) (by simp) (HII.out _ _ _ HI.out hbel) hbel.size hch hrow
 rw [show ((n - n : Nat) : Int) = 0 by simp] at H
 have HH := zk H
 have HBel := zk hbel
 clear H hrow hch hbel z1
 go_enter Try.func159, Try.ntmps159
 go_wp2_with (go_at_call 247; refine HH.out.mono ?_; rintro e_ w2 ⟨rfl, h1, h2⟩; have HX := zk (And.intro h1 h2); clear h1 h2)
 go_end0
 exact ⟨rfl, HX.out.1, (Fr.of_below HBel.out).trans HX.out.2⟩
/-- countPlaces' captured variables: the two lists' and the count. -/
structure Cp (tL tI : TypeId) (w0 W : World) (gl gp gm : Nat) (v0 v1 : Value) (s : Int) : Prop where
 hl : W.heap[gl]? = some (.cells #[v0] tL (0, 0))
 hp : W.heap[gp]? = some (.cells #[v1] tL (0, 0))
 hm : W.heap[gm]? = some (.cells #[.int .i64 s] tI (0, 0))
 hb : Below w0.heap.size w0 W
 gm_ : w0.heap.size ≤ gm
 n1 : tL ≠ tI
theorem Cp.below {tL tI : TypeId} {w0 W W' : World} {gl gp gm : Nat} {v0 v1 : Value} {s : Int} (h : Cp tL tI w0 W gl gp gm v0 v1 s) (hb : Below W.heap.size W W') : Cp tL tI w0 W' gl gp gm v0 v1 s :=
 ⟨blk_below h.hl hb, blk_below h.hp hb, blk_below h.hm hb, below_step h.hb hb, h.gm_, h.n1⟩
theorem Cp.put {tL tI : TypeId} {w0 W : World} {gl gp gm : Nat} {v0 v1 : Value} {s : Int} (h : Cp tL tI w0 W gl gp gm v0 v1 s) (s' : Int) : Cp tL tI w0 (W.setCell ⟨gm, 0, none⟩ (.int .i64 s')) gl gp gm v0 v1 s' :=
 ⟨blk_far h.hl (blk_ne h.hl h.hm h.n1) _, blk_far h.hp (blk_ne h.hp h.hm h.n1) _, one_setCell h.hm, h.hb.setCell h.gm_ _, h.gm_, h.n1⟩
set_option maxHeartbeats 8000000 in
set_option maxRecDepth 100000 in
theorem countPlaces_cb (l p : List Int) (A0 A1 : Option Addr) (c0 c1 : Nat) (w0 : World) (gl gp gm : Nat) (atl shp : List Int → List Int) (many : Nat)
 (hl0 : Kd.C (Kd.int .i64) w0 A0 l.length l) (hc0 : l.length ≤ c0) (hp0 : Kd.C (Kd.int .i64) w0 A1 p.length p) (hc1 : p.length ≤ c1)
 (hres : ∀ xs : List Int, xs.length = many → (∀ x ∈ xs, 0 ≤ x ∧ x < (l.length : Int)) → ∃ k1 k2 k3, impl_at.f k1 l xs = some (atl xs) ∧ impl_shape.f k2 (atl xs) = some (shp xs) ∧ slices_Equal_int_int.f k3 (shp xs) p = some (decide (shp xs = p))) :
 ∀ (s : Int) (W : World) (bS : Nat) (A : Option Addr) (c : Nat) (xs : List Int), Cp 22 3 w0 W gl gp gm (.slice A0 l.length c0) (.slice A1 p.length c1) s → Kd.R (Kd.int .i64) 3 W bS (fun k => ¬ (k = gm)) (.slice A xs.length c) xs → xs.length = many → (∀ x ∈ xs, 0 ≤ x ∧ x < (l.length : Int)) →
  Calls Try.prog 264 #[.slice A xs.length c, .pointer (some ⟨gl, 0, none⟩), .pointer (some ⟨gp, 0, none⟩), .pointer (some ⟨gm, 0, none⟩)] W fun e w' => e = .returned (.bool false) ∧ Cp 22 3 w0 w' gl gp gm (.slice A0 l.length c0) (.slice A1 p.length c1) (if shp xs = p then wrap64 (s + 1) else s) ∧ Fr (fun k => k = gm) W w' := by
 intro s W bS A c xs hC hR hx hq
 obtain ⟨s2, hs2⟩ : ∃ s2, (if shp xs = p then wrap64 (s + 1) else s) = s2 := ⟨_, rfl⟩
 rw [hs2]
 have HS2 := zk hs2
 clear hs2
 obtain ⟨k1, k2, k3, h1, h2, h3⟩ := hres xs hx hq
 replace h1 := zk h1
 replace h2 := zk h2
 replace h3 := zk h3
 have HC := zk hC
 have HR := zk hR
 have HL0 := zk hl0
 have HP0 := zk hp0
 clear hC hR hx hq hres hl0 hp0
 go_enter Try.func264, Try.ntmps264
 go_wp2_with (fail)
 refine start_ (n := 6) (S := fun w' => w'.cell? ⟨gl, 0, none⟩ = some (.slice A0 l.length c0) ∧ w'.cell? ⟨gp, 0, none⟩ = some (.slice A1 p.length c1)) (ds := []) #[false, false, false, false, false, false] (by kernel_rfl) rfl rfl ⟨cell_of_one HC.out.hl, cell_of_one HC.out.hp⟩ (fun hHeld => ?_)
 replace HC := zk (HC.out.below (below_drew (Below.refl _ _)))
 replace HR := zk (zt HR.out)
 have HF := zk (Fr.of_below (S := fun k => k = gm) (below_drew (Below.refl W.heap.size W)))
 generalize W.drew = w1 at HC HR HF hHeld ⊢
 have HB := zk (Below.refl w1.heap.size w1)
 refine zP (i := 1) (N := some 7) #[false, true, false, false, false, false] ?_
 refine take_ (i := 0) (N := some 6) (v := ?_) (a' := ?_) #[true, true, false, false, false, false] rfl rfl (by kernel_rfl) (fun _ _ _ h => h) (Or.inl ⟨by rfl, ?_⟩) hHeld ?_ ?_
 rotate_left
 · rintro w' ⟨s0, s1⟩
   go_simp
   with_reducible rfl
 rotate_left
 · exact zQ
 refine take_ (i := 4) (N := some 10) (v := ?_) (a' := ?_) #[true, true, false, false, true, false] rfl rfl (by kernel_rfl) (fun _ _ _ h => h) (Or.inl ⟨by rfl, ?_⟩) hHeld ?_ ?_
 rotate_left
 · rintro w' ⟨s0, s1⟩
   go_simp
   with_reducible rfl
 rotate_left
 · exact zQ
 refine one_ (i := 2) (N := some 8) #[true, true, true, false, true, false] rfl rfl (by kernel_rfl) (by decide) (fun K hK => ?_)
 refine goes_ Try.func162 (by kernel_rfl) rfl #[.slice A0 l.length c0, .slice A xs.length c] (by rfl) rfl rfl (by simp only [List.map_toArray, List.map_cons, List.map_nil]; rfl) ?_
 with_reducible refine (impl_at.calls k1 A0 c0 l A c xs _ _ (Kd.C_below HL0.out HC.out.hb) hc0 (Kd.R_reads' HR.out).2.2 (Kd.R_reads' HR.out).2.1 h1.out).mono ?_
 rintro e_ w2 ⟨v8, rfl, hR8, hb2⟩
 replace HB := zk (below_step HB.out hb2)
 obtain ⟨A8, c8, e8⟩ := Kd.R_slice hR8
 subst e8
 have HR8 := zk hR8
 clear hR8 hb2
 refine ⟨_, rfl, ?_⟩
 refine hK.out _ _ ⟨cell_of_one (blk_below HC.out.hl HB.out), cell_of_one (blk_below HC.out.hp HB.out)⟩ (fun hHeld => ?_)
 clear hK K
 refine zM 8 ?_
 refine one_ (i := 3) (N := some 9) #[true, true, true, true, true, false] rfl rfl (by kernel_rfl) (by decide) (fun K hK => ?_)
 refine goes_ Try.func161 (by kernel_rfl) rfl #[.slice A8 (atl xs).length c8] (by rfl) rfl rfl (by simp only [List.map_toArray, List.map_cons, List.map_nil]; rfl) ?_
 with_reducible refine (impl_shape.calls k2 A8 c8 (atl xs) _ _ (Kd.R_reads' HR8.out).2.2 (Kd.R_reads' HR8.out).2.1 h2.out).mono ?_
 rintro e_ w3 ⟨v9, rfl, hR9, hb3⟩
 replace HB := zk (below_step HB.out hb3)
 obtain ⟨A9, c9, e9⟩ := Kd.R_slice hR9
 subst e9
 have HR9 := zk hR9
 clear hR9 hb3
 refine ⟨_, rfl, ?_⟩
 refine hK.out _ _ ⟨cell_of_one (blk_below HC.out.hl HB.out), cell_of_one (blk_below HC.out.hp HB.out)⟩ (fun hHeld => ?_)
 clear hK K
 refine zM 9 ?_
 refine one_ (i := 5) (N := some 11) #[true, true, true, true, true, true] rfl rfl (by kernel_rfl) (by decide) (fun K hK => ?_)
 refine goes_ Try.func177 (by kernel_rfl) rfl #[.slice A9 (shp xs).length c9, .slice A1 p.length c1] (by rfl) rfl rfl (by simp only [List.map_toArray, List.map_cons, List.map_nil]; rfl) ?_
 with_reducible refine (slices_Equal_int_int.calls k3 A9 c9 (shp xs) A1 c1 p _ _ (Kd.R_reads' HR9.out).2.2 (Kd.R_reads' HR9.out).2.1 (Kd.C_below HP0.out (HC.out.hb.trans (Go.Proofs.Ytlkddcabjcejdaa.Base.below_below HB.out HC.out.hb.size))) hc1 h3.out).mono ?_
 rintro e_ w4 ⟨rfl, q4, rfl⟩
 refine ⟨_, rfl, ?_⟩
 refine hK.out _ _ ⟨by first | exact hHeld.1 | exact cell_of_one (blk_drewN (blk_below HC.out.hl HB.out) _), by first | exact hHeld.2 | exact cell_of_one (blk_drewN (blk_below HC.out.hp HB.out) _)⟩ (fun hHeld => ?_)
 clear hK K
 refine zM 11 ?_
 refine done_ (by kernel_rfl) ?_
 have HB5 := zk (zd HB.out q4)
 have HC5 := zk (HC.out.below HB5.out)
 clear hHeld
 generalize w3.drewN q4 = w5 at HB5 HC5 ⊢
 have cm := cell_of_one HC5.out.hm
 have fm := free_of_one HC5.out.hm
 have HF5 := zk (HF.out.trans (Fr.of_below HB5.out))
 by_cases hsp : shp xs = p
 · have hd : decide (shp xs = p) = true := decide_eq_true hsp
   rw [hd]
   have HSP := zk hsp
   clear hd hsp
   go_wp2
   go_ret
   have e := HS2.out
   rw [if_pos HSP.out] at e
   subst e
   exact ⟨rfl, HC5.out.put _, HF5.out.trans (Fr.set (S := fun k => k = gm) rfl _ _)⟩
 · have hd : decide (shp xs = p) = false := decide_eq_false hsp
   rw [hd]
   have HSP := zk hsp
   clear hd hsp
   go_wp2
   go_ret
   have e := HS2.out
   rw [if_neg HSP.out] at e
   subst e
   exact ⟨rfl, HC5.out, HF5.out⟩
def cpF (l p : List Int) (s : Int) (xs : List Int) : Int × Bool := (if Go.Proofs.Ytlkddcabjcejdaa.Base.shapeL (atG l xs) = p then wrap64 (s + 1) else s, false)
def cpG (l p : List Int) : Int := (addG (cpF l p) l.length p.length l.length [] 0).1
set_option maxHeartbeats 8000000 in
set_option maxRecDepth 100000 in
theorem countPlaces_calls (A0 : Option Addr) (c0 : Nat) (l0 : List Int) (A1 : Option Addr) (c1 : Nat) (l1 : List Int) (w : World) (hr0 : Kd.C (Kd.int .i64) w A0 l0.length l0) (hc0 : l0.length ≤ c0) (hr1 : Kd.C (Kd.int .i64) w A1 l1.length l1) (hc1 : l1.length ≤ c1) (hl : l0.length ≤ 7) (hp : l1.length ≤ 7) :
 Calls Try.prog 234 #[.slice A0 l0.length c0, .slice A1 l1.length c1] w fun e w' => e = .returned (.int .i64 (cpG l0 l1)) ∧ Below w.heap.size w w' := by
 have hmf : ∀ (fn : Fn) (first cap : Array Value) (w : World), (Instr.makeFunc fn first cap).run Try.prog w = .ok (.func fn first cap) w := fun _ _ _ _ => rfl
 have z1 : ∀ (W : World) (o : Obj), (W.alloc o).heap.size = W.heap.size + 1 := fun W o => by simp
 have hc : Cp 22 3 w (((w.alloc (Obj.cells #[Value.slice A0 l0.length c0] 22)).alloc (Obj.cells #[Value.slice A1 l1.length c1] 22)).alloc (Obj.cells #[Value.int IntKind.i64 0]  3)) w.heap.size (w.heap.size + 1) (w.heap.size + 1 + 1) (.slice A0 l0.length c0) (.slice A1 l1.length c1) 0 := by
  refine ⟨?_, ?_, ?_, ?_, by omega, by decide⟩
  · exact blk_alloc (blk_alloc (blk_new w _) _) _
  · exact blk_alloc (by have := blk_new (w.alloc (Obj.cells #[Value.slice A0 l0.length c0] 22)) (Obj.cells #[Value.slice A1 l1.length c1] 22); rwa [z1] at this) _
  · have := blk_new ((w.alloc (Obj.cells #[Value.slice A0 l0.length c0] 22)).alloc (Obj.cells #[Value.slice A1 l1.length c1] 22)) (Obj.cells #[Value.int IntKind.i64 0]  3)
    rwa [z1, z1] at this
  · exact za (za (za (Below.refl _ _) _) _) _
 have hz : (((w.alloc (Obj.cells #[Value.slice A0 l0.length c0] 22)).alloc (Obj.cells #[Value.slice A1 l1.length c1] 22)).alloc (Obj.cells #[Value.int IntKind.i64 0]  3)).heap.size = w.heap.size + 1 + 1 + 1 := by rw [z1, z1, z1]
 have H := choose_calls_cp (cpF l0 l1) (fun s W => Cp 22 3 w W w.heap.size (w.heap.size + 1) (w.heap.size + 1 + 1) (.slice A0 l0.length c0) (.slice A1 l1.length c1) s) (fun k => k = w.heap.size + 1 + 1) (.pointer (some ⟨w.heap.size, 0, none⟩)) (.pointer (some ⟨w.heap.size + 1, 0, none⟩)) (.pointer (some ⟨w.heap.size + 1 + 1, 0, none⟩)) l0.length l1.length 0 _ (fun s W W' h hb => h.below hb)
  (fun s W A c xs hI hsz hR hx hq => by
   refine (countPlaces_cb l0 l1 A0 A1 c0 c1 w w.heap.size (w.heap.size + 1) (w.heap.size + 1 + 1) (atG l0) (fun xs => Go.Proofs.Ytlkddcabjcejdaa.Base.shapeL (atG l0 xs)) l1.length hr0 hc0 hr1 hc1 (cp_res l0 l1 hp) s W _ A c xs hI hR hx hq).mono ?_
   rintro e w' ⟨rfl, h1, h2⟩
   exact ⟨rfl, h1, h2⟩) (fun k hk => by rw [hz, hk]; omega) (by omega) hc
 have HH := zk H
 have HC := zk hc
 clear H hc hz z1 hr0 hr1
 go_enter Try.func234, Try.ntmps234
 go_wp2_with (go_at_call 159; refine HH.out.mono ?_; rintro e_ w2 ⟨rfl, h1, h2⟩; have c12 := cell_of_one h1.hm; have HX := zk h1; clear h1 h2)
 go_ret
 exact ⟨rfl, HX.out.hb⟩
def impl_countPlaces.f (l0 : List Int) (l1 : List Int) : Option Int := if l0.length ≤ 7 ∧ l1.length ≤ 7 then some (cpG l0 l1) else none
theorem impl_countPlaces.calls (A0 : Option Addr) (c0 : Nat) (l0 : List Int) (A1 : Option Addr) (c1 : Nat) (l1 : List Int) (r : Int) (w : World) (hr0 : Kd.C (Kd.int .i64) w A0 l0.length l0) (hc0 : l0.length ≤ c0) (hr1 : Kd.C (Kd.int .i64) w A1 l1.length l1) (hc1 : l1.length ≤ c1) (h : impl_countPlaces.f l0 l1 = some r) :
 Calls Try.prog 234 #[.slice A0 l0.length c0, .slice A1 l1.length c1] w fun e w' => e = .returned (.int .i64 r) ∧ Below w.heap.size w w' := by
 unfold impl_countPlaces.f at h
 by_cases hl : l0.length ≤ 7 ∧ l1.length ≤ 7
 · rw [if_pos hl] at h
   obtain rfl := Option.some.inj h
   exact countPlaces_calls A0 c0 l0 A1 c1 l1 w hr0 hc0 hr1 hc1 hl.1 hl.2
 · rw [if_neg hl] at h; cases h
end

/-! ### impl_CountPlaces: function 127 -/
def impl_CountPlaces.f (k : Nat) (l0 : List Int) (l1 : List Int) : Option (Int × Bool) := (impl_isOrder.f k l0).bind fun t304 => (if t304 = true then ((impl_isOrder.f k l1).bind fun t305 => (if t305 = true then ((impl_countPlaces.f l0 l1).bind fun t306 => (some (t306, true))) else (some (0, false)))) else (some (0, false)))
set_option maxHeartbeats 8000000 in
set_option maxRecDepth 100000 in
theorem impl_CountPlaces.calls (k : Nat) (A0 : Option Addr) (c0 : Nat) (l0 : List Int) (A1 : Option Addr) (c1 : Nat) (l1 : List Int) (r1 : Int) (r2 : Bool) (w : World) (hr0 : Kd.C (Kd.int .i64) w A0 l0.length l0) (hc0 : l0.length ≤ c0) (hr1 : Kd.C (Kd.int .i64) w A1 l1.length l1) (hc1 : l1.length ≤ c1) (h : impl_CountPlaces.f k l0 l1 = some (r1, r2)) :
 Calls Try.prog 127 #[.slice A0 l0.length c0, .slice A1 l1.length c1] w fun e w' => e = .returned (.tuple #[.int .i64 r1, .bool r2]) ∧ Below w.heap.size w w' := by
 have HR0 := zk hr0
 have HC0 := zk hc0
 clear hr0 hc0
 have HR1 := zk hr1
 have HC1 := zk hc1
 clear hr1 hc1
 have HB := zk (Below.refl w.heap.size w)
 have H := h
 unfold impl_CountPlaces.f at H
 clear h
 replace H := Option.bind_eq_some_iff.mp H
 obtain ⟨t304, A30, H⟩ := H
 try dsimp only at H
 have A3 := zk A30
 clear A30
 by_cases c4 : t304 = true
 rotate_left
 · replace c4 := Bool.eq_false_iff.mpr c4
   subst c4
   have H1 : (some (0, false)) = some (r1, r2) := by rw [if_neg (show ¬ (false = true) by decide)] at H; exact H
   clear H
   have H := H1
   clear H1
   simp only [Option.some.injEq, Prod.mk.injEq] at H
   obtain ⟨rfl, rfl⟩ := H
   go_enter Try.func127, Try.ntmps127
   go_wp2_with (first | ((with_reducible refine gate_callee (f := 146) rfl ?_); refine zG (some 7) Try.func146 #[.slice A0 l0.length c0] ?_; (with_reducible refine (impl_isOrder.calls k _ _ l0 false _ ?side1 ?side2 A3.out).mono ?_); (case side1 => exact zC HR0.out); (case side2 => exact HC0.out); rintro e w' ⟨rfl, ⟨nd, rfl⟩⟩; refine ⟨_, rfl, ?_⟩))
   go_ret2
   exact ⟨by first | rfl | (simp [errW_none, errW_some] <;> rfl) | (simp [*, errW_none, errW_some] <;> rfl), by repeat (first | exact HB.out | apply za | apply zd | apply ze)⟩
 subst c4
 have H1 : ((impl_isOrder.f k l1).bind fun t305 => (if t305 = true then ((impl_countPlaces.f l0 l1).bind fun t306 => (some (t306, true))) else (some (0, false)))) = some (r1, r2) := by rw [if_pos rfl] at H; exact H
 clear H
 have H := H1
 clear H1
 replace H := Option.bind_eq_some_iff.mp H
 obtain ⟨t305, A50, H⟩ := H
 try dsimp only at H
 have A5 := zk A50
 clear A50
 by_cases c6 : t305 = true
 rotate_left
 · replace c6 := Bool.eq_false_iff.mpr c6
   subst c6
   have H1 : (some (0, false)) = some (r1, r2) := by rw [if_neg (show ¬ (false = true) by decide)] at H; exact H
   clear H
   have H := H1
   clear H1
   simp only [Option.some.injEq, Prod.mk.injEq] at H
   obtain ⟨rfl, rfl⟩ := H
   go_enter Try.func127, Try.ntmps127
   go_wp2_with (first | ((with_reducible refine gate_callee (f := 146) rfl ?_); refine zG (some 7) Try.func146 #[.slice A0 l0.length c0] ?_; (with_reducible refine (impl_isOrder.calls k _ _ l0 true _ ?side1 ?side2 A3.out).mono ?_); (case side1 => exact zC HR0.out); (case side2 => exact HC0.out); rintro e w' ⟨rfl, ⟨nd, rfl⟩⟩; refine ⟨_, rfl, ?_⟩) | (go_at_call 146; (with_reducible refine (impl_isOrder.calls k _ _ l1 false _ ?side1 ?side2 A5.out).mono ?_); (case side1 => exact zC HR1.out); (case side2 => exact HC1.out); rintro e w' ⟨rfl, ⟨nd, rfl⟩⟩))
   go_ret2
   exact ⟨by first | rfl | (simp [errW_none, errW_some] <;> rfl) | (simp [*, errW_none, errW_some] <;> rfl), by repeat (first | exact HB.out | apply za | apply zd | apply ze)⟩
 subst c6
 have H1 : ((impl_countPlaces.f l0 l1).bind fun t306 => (some (t306, true))) = some (r1, r2) := by rw [if_pos rfl] at H; exact H
 clear H
 have H := H1
 clear H1
 replace H := Option.bind_eq_some_iff.mp H
 obtain ⟨t306, A70, H⟩ := H
 try dsimp only at H
 have A7 := zk A70
 clear A70
 simp only [Option.some.injEq, Prod.mk.injEq] at H
 obtain ⟨rfl, rfl⟩ := H
 go_enter Try.func127, Try.ntmps127
 go_wp2_with (first | ((with_reducible refine gate_callee (f := 146) rfl ?_); refine zG (some 7) Try.func146 #[.slice A0 l0.length c0] ?_; (with_reducible refine (impl_isOrder.calls k _ _ l0 true _ ?side1 ?side2 A3.out).mono ?_); (case side1 => exact zC HR0.out); (case side2 => exact HC0.out); rintro e w' ⟨rfl, ⟨nd, rfl⟩⟩; refine ⟨_, rfl, ?_⟩) | (go_at_call 146; (with_reducible refine (impl_isOrder.calls k _ _ l1 true _ ?side1 ?side2 A5.out).mono ?_); (case side1 => exact zC HR1.out); (case side2 => exact HC1.out); rintro e w' ⟨rfl, ⟨nd, rfl⟩⟩) | ((with_reducible refine gate_callee (f := 234) rfl ?_); refine zG (some 16) Try.func234 #[.slice A0 l0.length c0, .slice A1 l1.length c1] ?_; (with_reducible refine (impl_countPlaces.calls _ _ l0 _ _ l1 t306 _ ?side1 ?side2 ?side3 ?side4 A7.out).mono ?_); (case side1 => exact zC HR0.out); (case side2 => exact HC0.out); (case side3 => exact zC HR1.out); (case side4 => exact HC1.out); rintro e w8 ⟨rfl, hb⟩; refine ⟨_, rfl, ?_⟩; replace HB := zF HB hb; (try clear hb); (try clear hb2); (try clear hk); (try clear hi)))
 go_ret2
 exact ⟨by first | rfl | (simp [errW_none, errW_some] <;> rfl) | (simp [*, errW_none, errW_some] <;> rfl), by repeat (first | exact HB.out | apply za | apply zd | apply ze)⟩

end Go.Proofs.Ytlkddcabjcejdaa.MFnContained
