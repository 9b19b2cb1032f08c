/- The functions that FnOneStack comes to, with a walk for each. Made by this session's own program (wip/tools/mk.py), in the form of the kit's print; walks named in NOTES.md were written by hand. -/
import Derived.Test.YtlkddcabjcejdaaMFnOneStackx0
namespace Go.Proofs.Ytlkddcabjcejdaa.MFnOneStack
open Go.RowKit Go.Proofs.YtlkddcabjcejdaaW.PrintWords Go.Proofs.YtlkddcabjcejdaaW.PrintLast Go.Proofs.YtlkddcabjcejdaaW.PrintMore
attribute [local go_sem] max2_int min2_int max_two min_two max_three min_three max_four min_four   -- for this text's walks alone
set_option linter.unusedVariables false
set_option linter.unusedSimpArgs false

/-! ### impl_sweepWord: function 205 -/
/-! ### impl_sweepWord: a closure that pops; its two captured variables hold slices of the call's own -/
theorem sw_ne {k : IntKind} {e t : TypeId} (hne : e ≠ t) {W : World} {base : Nat} {ok : Nat → Prop} {v : Value} {xs : List Int} {g : Nat} {cs : Array Value} (h : Kd.R (Kd.int k) e W base ok v xs) (hg : W.heap[g]? = some (.cells cs t (0, 0))) : v.ownBlock ≠ some g := by
 obtain ⟨_, h2⟩ := Kd.own_of_R h
 rcases h2 with ⟨rfl, _⟩ | ⟨g', cap, cur, rfl, _, hh, _⟩
 · simp [Value.ownBlock]
 · intro e'
   simp [Value.ownBlock] at e'
   subst e'
   rw [hh] at hg
   simp at hg
   exact hne hg.2
theorem sw_set {k : IntKind} {e : TypeId} {W : World} {base : Nat} {ok : Nat → Prop} {v : Value} {xs : List Int} (h : Kd.R (Kd.int k) e W base ok v xs) {a : Addr} (ha : v.ownBlock ≠ some a.block) (u : Value) : Kd.R (Kd.int k) e (W.setCell a u) base ok v xs :=
 Kd.R_of_own (ownsRow_setCell_other (Kd.own_of_R h) ha u) h.1
/-- The two captured variables (in them bs, bo), the two rows. -/
structure Sw (w0 W : World) (gs go : Nat) (ts tO es eo : TypeId) (bs bo vs vo : Value) (ss os : List Int) : Prop where
 hs : W.heap[gs]? = some (.cells #[bs] ts (0, 0))
 ho : W.heap[go]? = some (.cells #[bo] tO (0, 0))
 rs : Kd.R (Kd.int .i64) es W w0.heap.size (fun _ => True) vs ss
 ro : Kd.R (Kd.int .u8) eo W w0.heap.size (fun _ => True) vo os
 hb : Below w0.heap.size w0 W
 gs_ : w0.heap.size ≤ gs
 go_ : w0.heap.size ≤ go
 n1 : es ≠ ts
 n2 : es ≠ tO
 n3 : eo ≠ ts
 n4 : eo ≠ tO
 n5 : es ≠ eo
 n6 : ts ≠ tO
section
variable {w0 W W' : World} {gs go : Nat} {ts tO es eo : TypeId} {bs bo vs vo vs' vo' : Value} {ss os ss' os' : List Int}
theorem Sw.size (h : Sw w0 W gs go ts tO es eo bs bo vs vo ss os) : w0.heap.size ≤ W.heap.size := h.hb.size
theorem Sw.below (h : Sw w0 W gs go ts tO es eo bs bo vs vo ss os) (hb : Below W.heap.size W W') : Sw w0 W' gs go ts tO es eo bs bo vs vo ss os :=
 ⟨blk_below h.hs hb, blk_below h.ho hb, Kd.R_below h.rs hb, Kd.R_below h.ro hb, below_step h.hb hb, h.gs_, h.go_, h.n1, h.n2, h.n3, h.n4, h.n5, h.n6⟩
theorem Sw.drew (h : Sw w0 W gs go ts tO es eo bs bo vs vo ss os) : Sw w0 W.drew gs go ts tO es eo bs bo vs vo ss os := h.below (below_drew (Below.refl _ _))
theorem Sw.appS (h : Sw w0 W gs go ts tO es eo bs bo vs vo ss os) (hg : W.grownBy W' vs.ownBlock) (hr : Kd.R (Kd.int .i64) es W' w0.heap.size (fun _ => True) vs' ss') (hb : Below w0.heap.size w0 W') : Sw w0 W' gs go ts tO es eo bs bo vs' vo ss' os :=
 ⟨blk_grown h.hs hg (fun e => sw_ne h.n1 h.rs h.hs e.symm), blk_grown h.ho hg (fun e => sw_ne h.n2 h.rs h.ho e.symm), hr, Kd.R_over' h.ro (Kd.R_typed h.rs) (fun q hq => by have := List.mem_singleton.1 hq; subst this; exact fun e => h.n5 e.symm) hg, hb, h.gs_, h.go_, h.n1, h.n2, h.n3, h.n4, h.n5, h.n6⟩
theorem Sw.appO (h : Sw w0 W gs go ts tO es eo bs bo vs vo ss os) (hg : W.grownBy W' vo.ownBlock) (hr : Kd.R (Kd.int .u8) eo W' w0.heap.size (fun _ => True) vo' os') (hb : Below w0.heap.size w0 W') : Sw w0 W' gs go ts tO es eo bs bo vs vo' ss os' :=
 ⟨blk_grown h.hs hg (fun e => sw_ne h.n3 h.ro h.hs e.symm), blk_grown h.ho hg (fun e => sw_ne h.n4 h.ro h.ho e.symm), Kd.R_over' h.rs (Kd.R_typed h.ro) (fun q hq => by have := List.mem_singleton.1 hq; subst this; exact h.n5) hg, hr, hb, h.gs_, h.go_, h.n1, h.n2, h.n3, h.n4, h.n5, h.n6⟩
theorem Sw.putS (h : Sw w0 W gs go ts tO es eo bs bo vs vo ss os) (u : Value) : Sw w0 (W.setCell ⟨gs, 0, none⟩ u) gs go ts tO es eo u bo vs vo ss os :=
 ⟨one_setCell h.hs, blk_far h.ho (blk_ne h.ho h.hs (fun e => h.n6 e.symm)) u, sw_set h.rs (sw_ne h.n1 h.rs h.hs) u, sw_set h.ro (sw_ne h.n3 h.ro h.hs) u, h.hb.setCell h.gs_ _, h.gs_, h.go_, h.n1, h.n2, h.n3, h.n4, h.n5, h.n6⟩
theorem Sw.putO (h : Sw w0 W gs go ts tO es eo bs bo vs vo ss os) (u : Value) : Sw w0 (W.setCell ⟨go, 0, none⟩ u) gs go ts tO es eo bs u vs vo ss os :=
 ⟨blk_far h.hs (blk_ne h.hs h.ho h.n6) u, one_setCell h.ho, sw_set h.rs (sw_ne h.n2 h.rs h.ho) u, sw_set h.ro (sw_ne h.n4 h.ro h.ho) u, h.hb.setCell h.go_ _, h.gs_, h.go_, h.n1, h.n2, h.n3, h.n4, h.n5, h.n6⟩
theorem Sw.rowS (h : Sw w0 W gs go ts tO es eo bs bo vs vo ss os) (hr : Kd.R (Kd.int .i64) es W w0.heap.size (fun _ => True) vs' ss') : Sw w0 W gs go ts tO es eo bs bo vs' vo ss' os :=
 ⟨h.hs, h.ho, hr, h.ro, h.hb, h.gs_, h.go_, h.n1, h.n2, h.n3, h.n4, h.n5, h.n6⟩
end
def impl_sweepWord.popG (b : Int) : List Int → List Int → List Int × List Int
 | [], out => ([], out)
 | x :: s, out => if x < b then impl_sweepWord.popG b s (out ++ [79]) else (x :: s, out)
theorem sw_top (x : Int) (s : List Int) : rd (x :: s).reverse (((x :: s).reverse.length : Int) - 1) = x := by simp [rd]
theorem sw_cut (x : Int) (s : List Int) : (x :: s).reverse.take (((x :: s).reverse.length : Int) - 1).toNat = s.reverse := by simp
set_option maxHeartbeats 8000000 in
set_option maxRecDepth 100000 in
theorem impl_sweepWord.pop (b : Int) (st out : List Int) (w0 w : World) (gs go : Nat) (vs vo : Value) (h : Sw w0 w gs go 22 40 3 5 vs vo vs vo st.reverse out) (hn : st.length + out.length < 100000000000000) (hst : st.length < 17592186044416) :
 Calls Try.prog 259 #[.int .i64 b, .pointer (some ⟨gs, 0, none⟩), .pointer (some ⟨go, 0, none⟩)] w fun e w' => e = .returned (.tuple #[]) ∧ ∃ vs' vo', Sw w0 w' gs go 22 40 3 5 vs' vo' vs' vo' (impl_sweepWord.popG b st out).1.reverse (impl_sweepWord.popG b st out).2 := by
 have HS := zk h
 clear h
 obtain ⟨R, hR⟩ : ∃ R, impl_sweepWord.popG b st out = R := ⟨_, rfl⟩
 rw [hR]
 have HP := zk hR
 clear hR
 go_enter Try.func259, Try.ntmps259
 go_wp2
 go_loopg [16] st.length (fun kq v16 w' => ∃ (st1 out1 : List Int) (vs1 vo1 : Value), kq = st1.length ∧ Aside0 (impl_sweepWord.popG b st1 out1 = R) ∧ Aside0 (Sw w0 w' gs go 22 40 3 5 vs1 vo1 vs1 vo1 st1.reverse out1) ∧ Aside0 (st1.length + out1.length = st.length + out.length))
 case atStart => exact ⟨st, out, vs, vo, rfl, HP, HS, ⟨rfl⟩⟩
 case round =>
  clear HS HP
  obtain ⟨st1, out1, vs1, vo1, rfl, HP, HS, HL⟩ := hrel
  obtain ⟨As, cs, es⟩ := Kd.R_slice HS.out.rs
  subst es
  have cS := cell_of_one HS.out.hs
  cases st1 with
  | nil =>
   simp only [List.reverse_nil, List.length_nil] at cS
   go_wp2
   go_end0
   have e := HP.out
   simp only [impl_sweepWord.popG] at e
   subst e
   exact ⟨rfl, _, _, HS.out⟩
  | cons x s =>
   have hlen : ((x :: s).reverse.length : Int) = (s.length : Int) + 1 := by simp
   have hlenN : (x :: s).reverse.length = s.length + 1 := by simp
   have hL := HL.out
   simp only [List.length_cons] at hL
   obtain ⟨ad, e1, hx⟩ := Kd.at_int (Kd.R_reads' HS.out.rs).2.2 (((x :: s).reverse.length : Int) - 1) (by omega) (by omega)
   cases e1
   rw [sw_top, hlen, show ((s.length : Int) + 1 - 1).toNat = s.length by omega] at hx
   rw [hlenN] at cS
   have w1 : (0 : Int) < (s.length : Int) + 1 := by omega
   by_cases hb : x < b
   · go_upto_region 1 with (fail)
     have hw64 : wrap64 (s.length : Int) = (s.length : Int) := by unfold wrap64; omega
     obtain ⟨i0, hi0, _, hsz0, _⟩ := info_parts info3
     have hcut := cut_to (P := Try.prog) 22 3 .i64 Try.underlying22 hi0 (some ad) (s.length + 1) cs (s.length : Int) (by omega) (by omega) (by have := (Kd.R_reads' HS.out.rs).2.1; simpa using this)
     have HSd := zk HS.out.drew
     refine start_ (n := 10) (S := fun w' => w'.cell? ⟨gs, 0, none⟩ = some (.slice (some ad) (s.length + 1) cs) ∧ w'.cell? ⟨go, 0, none⟩ = some vo1) (ds := [8, 9]) #[false, false, false, false, false, false, false, false, false, false] (by kernel_rfl) rfl rfl ⟨cell_of_one (by simpa using HSd.out.hs), cell_of_one HSd.out.ho⟩ (fun hHeld => ?_)
     generalize wr.drew = wd at HSd hHeld ⊢
     refine take_ (i := 0) (N := some 17) (v := ?_) (a' := ?_) #[true, false, false, false, false, false, false, false, false, false] rfl rfl (by kernel_rfl) (fun _ _ _ h => h) (Or.inl ⟨by rfl, ?_⟩) hHeld ?_ ?_
     rotate_left
     · rintro w' ⟨s0, s1⟩
       go_simp
       with_reducible rfl
     rotate_left
     · simp only [Act.put, List.setIfInBounds_toArray, List.set_cons_zero, List.set_cons_succ, i64_w, i32_w]
       rfl
     refine take_ (i := 1) (N := some 18) (v := ?_) (a' := ?_) #[true, true, false, false, false, false, false, false, false, false] rfl rfl (by kernel_rfl) (fun _ _ _ h => h) (Or.inl ⟨by rfl, ?_⟩) hHeld ?_ ?_
     rotate_left
     · rintro w' ⟨s0, s1⟩
       go_simp
       with_reducible rfl
     rotate_left
     · simp only [Act.put, List.setIfInBounds_toArray, List.set_cons_zero, List.set_cons_succ, i64_w, i32_w]
       rfl
     refine pure_ (i := 2) (N := some 19) (v := ?_) (a' := ?_) #[true, true, true, false, false, false, false, false, false, false] rfl rfl (by kernel_rfl) (fun _ _ _ h => h) (Or.inl ⟨by rfl, ?_⟩) ?_ ?_
     rotate_left
     · intro w'
       go_simp
       with_reducible rfl
     rotate_left
     · simp only [Act.put, List.setIfInBounds_toArray, List.set_cons_zero, List.set_cons_succ, i64_w, i32_w]
       rfl
     refine pure_ (i := 3) (N := some 20) (v := ?_) (a' := ?_) #[true, true, true, true, false, false, false, false, false, false] rfl rfl (by kernel_rfl) (fun _ _ _ h => h) (Or.inl ⟨by rfl, ?_⟩) ?_ ?_
     rotate_left
     · intro w'
       go_simp
       with_reducible rfl
     rotate_left
     · simp only [Act.put, List.setIfInBounds_toArray, List.set_cons_zero, List.set_cons_succ, i64_w, i32_w]
       rfl
     refine pure_ (i := 4) (N := some 21) (v := ?_) (a' := ?_) #[true, true, true, true, true, false, false, false, false, false] rfl rfl (by kernel_rfl) (fun _ _ _ h => h) (Or.inl ⟨by rfl, ?_⟩) ?_ ?_
     rotate_left
     · intro w'
       go_simp
       with_reducible rfl
     rotate_left
     · simp only [Act.put, List.setIfInBounds_toArray, List.set_cons_zero, List.set_cons_succ, i64_w, i32_w]
       rfl
     refine take_ (i := 5) (N := some 22) (v := ?_) (a' := ?_) #[true, true, true, true, true, true, false, false, false, false] rfl rfl (by kernel_rfl) (fun _ _ _ h => h) (Or.inl ⟨by rfl, ?_⟩) hHeld ?_ ?_
     rotate_left
     · rintro w' ⟨s0, s1⟩
       go_simp
       with_reducible rfl
     rotate_left
     · simp only [Act.put, List.setIfInBounds_toArray, List.set_cons_zero, List.set_cons_succ, i64_w, i32_w]
       rfl
     refine one_ (i := 6) (N := some 23) #[true, true, true, true, true, true, true, false, false, false] rfl rfl (by kernel_rfl) (by decide) (fun K hK => ?_)
     refine Kd.R_lit_step (Kd.int .u8) _ 5 ?hg (N := 23) ?hd (xs := ([79] : List Int)) (inner := [.int .u8 79]) (ok := fun _ => True) (okp := fun _ => True) ?hr ?hp (fun _ hk => hk) trivial (Below.refl _ _) (Nat.le_refl _) (by simp) ?_; (case hd => rfl); (case hg => rfl); (case hr => first | (go_simp; done) | (go_simp; rfl)); (case hp => exact (Reps.one (show Kd.M (Kd.int .u8) _ _ _ 79 [.int .u8 79] from rfl) (Reps.none _ _)))
     intro v23 w2 hL2 hb2 hg2 hn2
     have HS2 := zk (HSd.out.below hb2)
     clear HSd hg2 hn2
     obtain ⟨A23, c23, e23⟩ := Kd.R_slice hL2
     subst e23
     refine hK.out _ _ ⟨cell_of_one (by simpa using HS2.out.hs), cell_of_one HS2.out.ho⟩ (fun hHeld => ?_)
     clear hK K
     refine norm_ (a' := ?_) ?_ ?_
     rotate_left
     · show Act.put _ (some 23) _ = _
       simp only [Act.put, List.setIfInBounds_toArray, List.set_cons_zero, List.set_cons_succ, i64_w, i32_w]
       rfl
     refine one_ (i := 7) (N := some 24) #[true, true, true, true, true, true, true, true, false, false] rfl rfl (by kernel_rfl) (by decide) (fun K hK => ?_)
     refine Kd.R_append_rows_step (Kd.int .u8) (w0 := w0) w0.heap.size (by rfl) (.tmp 22) (.tmp 23) 40 5 (.int .u8 0) 1 rfl Try.underlying40 info5 rfl (by decide) (by omega) vo1 out1 [79] _ _ _ (fun _ => True) (fun _ => False) rfl rfl HS2.out.ro (Kd.R_reads' hL2).2.2 (fun _ _ h => h) (fun _ h => h.elim) (fun _ _ => trivial) HS2.out.hb HS2.out.size (by simp only [List.length_cons, List.length_nil]; omega) ?_
     intro v24 w3 ho3 hb3 hg3 hat3
     obtain ⟨A24, c24, e24⟩ := Kd.R_slice ho3
     subst e24
     have HS3 := zk (HS2.out.appO hg3 ho3 hb3)
     clear HS2 hL2 hat3 hg3 hb3 ho3
     refine hK.out _ _ ⟨cell_of_one (by simpa using HS3.out.hs), cell_of_one HS3.out.ho⟩ (fun hHeld => ?_)
     clear hK K
     refine norm_ (a' := ?_) ?_ ?_
     rotate_left
     · show Act.put _ (some 24) _ = _
       simp only [Act.put, List.setIfInBounds_toArray, List.set_cons_zero, List.set_cons_succ, i64_w, i32_w]
       rfl
     refine last_ (i := 8) (N := none) #[true, true, true, true, true, true, true, true, true, false] rfl rfl (by kernel_rfl) (by decide) (fun K hK => ?_)
     have c8 := cell_of_one HS3.out.hs
     have f8 := free_of_one HS3.out.hs
     refine skip_ (w1 := ?_) (by rfl) rfl ?_ ?_
     rotate_left
     · go_simp
       rfl
     refine hK.out _ _ ?_
     clear hK K
     refine last_ (i := 9) (N := none) #[true, true, true, true, true, true, true, true, true, true] rfl rfl (by kernel_rfl) (by decide) (fun K hK => ?_)
     have HS4 := zk (HS3.out.putS (.slice (some ad) s.length cs))
     have c9 := cell_of_one HS4.out.ho
     have f9 := free_of_one HS4.out.ho
     refine skip_ (w1 := ?_) (by rfl) rfl ?_ ?_
     rotate_left
     · go_simp
       rfl
     refine hK.out _ _ ?_
     clear hK K
     refine done_ (by kernel_rfl) ?_
     try go_wp2
     go_roundg s.length
     case measure => simp
     case rel =>
      have HS5 := HS4.out.putO (.slice A24 (out1.length + 1) c24)
      have hr := Kd.R_take (m := s.length) HS5.rs (by simp)
      rw [show (x :: s).reverse.take s.length = s.reverse by simp] at hr
      have e := HP.out
      simp only [impl_sweepWord.popG, if_pos hb] at e
      exact ⟨s, out1 ++ [79], _, _, rfl, ⟨e⟩, ⟨by simpa using HS5.rowS hr⟩, ⟨by simp; omega⟩⟩
   · go_wp2
     go_end0
     have e := HP.out
     simp only [impl_sweepWord.popG, if_neg (show ¬ x < b by omega)] at e
     subst e
     exact ⟨rfl, _, _, HS.out⟩
def impl_sweepWord.goG : List Int → List Int → List Int → List Int
 | [], st, out => (impl_sweepWord.popG 8 st out).2
 | n :: t, st, out => impl_sweepWord.goG t (n :: (impl_sweepWord.popG n st out).1) ((impl_sweepWord.popG n st out).2 ++ [73])
def impl_sweepWord.f (l0 : List Int) : Option ByteArray := if l0.length < 1099511627776 then some (strOfNums (impl_sweepWord.goG l0 [] [])) else none
theorem popG_length (b : Int) : ∀ (st out : List Int), (impl_sweepWord.popG b st out).1.length + (impl_sweepWord.popG b st out).2.length = st.length + out.length := by
 intro st
 induction st with
 | nil => intro out; simp [impl_sweepWord.popG]
 | cons x s ih =>
  intro out
  simp only [impl_sweepWord.popG]
  split
  · rw [ih]; simp; omega
  · rfl
theorem popG_le (b : Int) : ∀ (st out : List Int), (impl_sweepWord.popG b st out).1.length ≤ st.length := by
 intro st
 induction st with
 | nil => intro out; simp [impl_sweepWord.popG]
 | cons x s ih =>
  intro out
  simp only [impl_sweepWord.popG]
  split
  · exact Nat.le_trans (ih _) (by simp)
  · exact Nat.le_refl _
set_option maxHeartbeats 8000000 in
set_option maxRecDepth 100000 in
theorem impl_sweepWord.calls (A0 : Option Addr) (c0 : Nat) (l0 : List Int) (r : ByteArray) (w : World) (hr0 : Kd.C (Kd.int .i64) w A0 l0.length l0) (hc0 : l0.length ≤ c0) (h : impl_sweepWord.f l0 = some r) :
 Calls Try.prog 205 #[.slice A0 l0.length c0] w fun e w' => e = .returned (.string r) ∧ Below w.heap.size w w' := by
 unfold impl_sweepWord.f at h
 by_cases hl : l0.length < 1099511627776
 · rw [if_pos hl] at h
   obtain rfl := Option.some.inj h
   clear h
   have HR0 := zk hr0
   clear hr0
   obtain ⟨R, hR⟩ : ∃ R, impl_sweepWord.goG l0 [] [] = R := ⟨_, rfl⟩
   rw [hR]
   have HP := zk hR
   clear hR
   have hmf : ∀ (fn : Fn) (first cap : Array Value) (w : World), (Instr.makeFunc fn first cap).run Try.prog w = .ok (.func fn first cap) w := fun _ _ _ _ => rfl
   go_enter Try.func205, Try.ntmps205
   go_wp2
   have HSw : Aside0 (Sw w ((((w.alloc (Obj.cells #[] 3)).alloc (Obj.cells #[] 5)).alloc (Obj.cells #[Value.slice (some { block := w.heap.size, off := 0 }) 0 0] 22)).alloc (Obj.cells #[Value.slice (some { block := w.heap.size + 1, off := 0 }) 0 0] 40)) (w.heap.size + 1 + 1) (w.heap.size + 1 + 1 + 1) 22 40 3 5 (Value.slice (some { block := w.heap.size, off := 0 }) 0 0) (Value.slice (some { block := w.heap.size + 1, off := 0 }) 0 0) (Value.slice (some { block := w.heap.size, off := 0 }) 0 0) (Value.slice (some { block := w.heap.size + 1, off := 0 }) 0 0) [] []) := by
    have z1 : ∀ (W : World) (o : Obj), (W.alloc o).heap.size = W.heap.size + 1 := fun W o => by simp
    refine ⟨⟨?_, ?_, ?_, ?_, ?_, by omega, by omega, by decide, by decide, by decide, by decide, by decide, by decide⟩⟩
    · exact blk_alloc (by have := blk_new ((w.alloc (Obj.cells #[] 3)).alloc (Obj.cells #[] 5)) (Obj.cells #[Value.slice (some { block := w.heap.size, off := 0 }) 0 0] 22); rwa [z1, z1] at this) _
    · have := blk_new (((w.alloc (Obj.cells #[] 3)).alloc (Obj.cells #[] 5)).alloc (Obj.cells #[Value.slice (some { block := w.heap.size, off := 0 }) 0 0] 22)) (Obj.cells #[Value.slice (some { block := w.heap.size + 1, off := 0 }) 0 0] 40)
      rwa [z1, z1, z1] at this
    · exact Kd.R_of_own ⟨rfl, Or.inr ⟨w.heap.size, 0, #[], rfl, Nat.le_refl _, blk_alloc (blk_alloc (blk_alloc (blk_new w (Obj.cells #[] 3)) _) _) _, Nat.le_refl _, Nat.zero_le _, rfl, rfl⟩⟩ (fun _ _ => trivial)
    · exact Kd.R_of_own ⟨rfl, Or.inr ⟨w.heap.size + 1, 0, #[], rfl, by omega, blk_alloc (blk_alloc (by have := blk_new (w.alloc (Obj.cells #[] 3)) (Obj.cells #[] 5); rwa [z1] at this) _) _, Nat.le_refl _, Nat.zero_le _, rfl, rfl⟩⟩ (fun _ _ => trivial)
    · exact za (za (za (za (Below.refl _ _) _) _) _) _
   generalize ((((w.alloc (Obj.cells #[] 3)).alloc (Obj.cells #[] 5)).alloc (Obj.cells #[Value.slice (some { block := w.heap.size, off := 0 }) 0 0] 22)).alloc (Obj.cells #[Value.slice (some { block := w.heap.size + 1, off := 0 }) 0 0] 40)) = wa at HSw ⊢
   generalize w.heap.size + 1 + 1 = gs at HSw ⊢
   go_loopg [13] l0.length (fun kq v13 wr => ∃ (pre suf st out : List Int) (vs1 vo1 : Value), v13 = .int .i64 (pre.length : Int) ∧ kq = suf.length ∧ Aside0 (l0 = pre ++ suf) ∧ Aside0 (impl_sweepWord.goG suf st out = R) ∧ Aside0 (Sw w wr gs (gs + 1) 22 40 3 5 vs1 vo1 vs1 vo1 st.reverse out) ∧ Aside0 (st.length ≤ pre.length ∧ st.length + out.length = 2 * pre.length))
   case atStart => exact ⟨[], l0, [], [], _, _, rfl, rfl, ⟨rfl⟩, HP, HSw, ⟨by simp⟩⟩
   case round =>
    clear HSw HP
    obtain ⟨pre, suf, st, out, vs1, vo1, rfl, rfl, HL, HP, HSw, HN⟩ := hrel
    have hN := HN.out
    cases suf with
    | nil =>
     have hlen : l0.length = pre.length := by rw [HL.out]; simp
     have hg8 : ¬ ((pre.length : Int) < (l0.length : Int)) := by omega
     have e := HP.out
     simp only [impl_sweepWord.goG] at e
     go_wp2_with (go_at_call 259; refine (impl_sweepWord.pop 8 st out w wr gs (gs + 1) vs1 vo1 HSw.out (by omega) (by omega)).mono ?_; rintro e_ w2 ⟨rfl, vs2, vo2, HS2⟩; have c10 := cell_of_one HS2.ho; have hcv := own_string (P := Try.prog) Try.underlying40 Try.underlying5 Try.underlying9 (Kd.own_of_R HS2.ro); have HSw2 := zk HS2; clear HS2)
     go_ret
     exact ⟨rfl, HSw2.out.hb⟩
    | cons n t =>
     have hlen : l0.length = pre.length + (t.length + 1) := by rw [HL.out]; simp
     have hg8 : (pre.length : Int) < (l0.length : Int) := by omega
     obtain ⟨ad, e1, hx⟩ := Kd.at_int HR0.out (pre.length : Int) (by omega) hg8
     cases e1
     have hrd : rd l0 (pre.length : Int) = n := by rw [HL.out]; simp [rd]
     rw [hrd, show ((pre.length : Int)).toNat = pre.length by omega] at hx
     replace hx := (HSw.out.hb.cell (World.block_lt_of_cell? w _ hx)).trans hx
     have HLn := zk hlen
     have hb1 : st.length + out.length < 100000000000000 := by omega
     have hb2 : st.length < 17592186044416 := by omega
     clear hlen
     have hp1 := popG_length n st out
     have hp2 := popG_le n st out
     go_wp2_with (go_at_call 259; refine (impl_sweepWord.pop n st out w wr gs (gs + 1) vs1 vo1 HSw.out hb1 hb2).mono ?_; rintro e_ w2 ⟨rfl, vs2, vo2, HS2⟩; have HSw2 := zk HS2; clear HS2)
     obtain ⟨ps, hps⟩ : ∃ ps, (impl_sweepWord.popG n st out).1.reverse = ps := ⟨_, rfl⟩
     obtain ⟨po, hpo⟩ : ∃ po, (impl_sweepWord.popG n st out).2 = po := ⟨_, rfl⟩
     have hq1 : ps.length ≤ st.length := by rw [← hps]; simpa using hp2
     have HQ := zk (show ps.length + po.length = st.length + out.length by rw [← hps, ← hpo, ← hp1]; simp)
     have hq2 : po.length ≤ st.length + out.length := by have := HQ.out; omega
     clear hp1 hp2
     clear HSw
     have HSw := HSw2
     clear HSw2
     rw [hps, hpo] at HSw
     have HPS := zk hps
     have HPO := zk hpo
     clear hps hpo
     obtain ⟨As, cs, e2⟩ := Kd.R_slice HSw.out.rs
     subst e2
     refine start_ (n := 9) (S := fun w' => w'.cell? ⟨gs, 0, none⟩ = some (.slice As ps.length cs) ∧ w'.cell? ⟨gs + 1, 0, none⟩ = some vo2) (ds := [7, 8]) #[false, false, false, false, false, false, false, false, false] (by kernel_rfl) rfl rfl ⟨cell_of_one HSw.out.drew.hs, cell_of_one HSw.out.drew.ho⟩ (fun hHeld => ?_)
     replace HSw := zk HSw.out.drew
     generalize World.drew _ = wd at HSw hHeld ⊢
     refine pure_ (i := 1) (N := some 21) (v := ?_) (a' := ?_) #[false, true, false, false, false, false, false, false, false] rfl rfl (by kernel_rfl) (fun _ _ _ h => h) (Or.inl ⟨by rfl, ?_⟩) ?_ ?_
     rotate_left
     · intro w'
       go_simp
       with_reducible rfl
     rotate_left
     · simp only [Act.put, List.setIfInBounds_toArray, List.set_cons_zero, List.set_cons_succ, i64_w, i32_w]
       rfl
     refine take_ (i := 0) (N := some 20) (v := ?_) (a' := ?_) #[true, true, false, false, false, false, false, false, false] rfl rfl (by kernel_rfl) (fun _ _ _ h => h) (Or.inl ⟨by rfl, ?_⟩) hHeld ?_ ?_
     rotate_left
     · rintro w' ⟨s0, s1⟩
       go_simp
       with_reducible rfl
     rotate_left
     · simp only [Act.put, List.setIfInBounds_toArray, List.set_cons_zero, List.set_cons_succ, i64_w, i32_w]
       rfl
     refine take_ (i := 4) (N := some 24) (v := ?_) (a' := ?_) #[true, true, false, false, true, false, false, false, false] rfl rfl (by kernel_rfl) (fun _ _ _ h => h) (Or.inl ⟨by rfl, ?_⟩) hHeld ?_ ?_
     rotate_left
     · rintro w' ⟨s0, s1⟩
       go_simp
       with_reducible rfl
     rotate_left
     · simp only [Act.put, List.setIfInBounds_toArray, List.set_cons_zero, List.set_cons_succ, i64_w, i32_w]
       rfl
     refine join_ (σ := Value × Value × Value) 3 #[true, true, true, true, true, true, false, false, false] (fun s_ => [(22, s_.1), (23, s_.2.1), (25, s_.2.2)]) (fun s_ w' => (w'.cell? ⟨gs, 0, none⟩ = some (.slice As ps.length cs) ∧ w'.cell? ⟨gs + 1, 0, none⟩ = some vo2) ∧ Aside0 (Sw w w' gs (gs + 1) 22 40 3 5 (.slice As ps.length cs) vo2 s_.2.1 vo2 (ps ++ [n]) po) ∧ Aside0 (Kd.R (Kd.int .u8) 5 w' w.heap.size (fun _ => True) s_.2.2 [73])) ?_ ?_
     rotate_left
     · intro hCont
       refine two_ (i := 2) (j := 5) (Ni := some 22) (Nj := some 25) #[true, true, true, false, true, false, false, false, false] #[true, true, false, false, true, true, false, false, false] rfl rfl rfl rfl (by kernel_rfl) (by decide) (by decide) (fun K hK => ?_) (fun K hK => ?_)
       · skip
         have hz2 := HSw.out.size
         refine Kd.R_lit_step (Kd.int .i64) _ 3 ?hg (N := 22) ?hd (xs := ([n] : List Int)) (inner := [.int .i64 n]) (ok := fun _ => True) (okp := fun _ => True) ?hr ?hp (fun _ hk => hk) trivial (Below.refl _ _) (Nat.le_refl _) (by simp) ?_; (case hd => rfl); (case hg => rfl); (case hr => first | (go_simp; done) | (go_simp; rfl)); (case hp => exact (Reps.one (show Kd.M (Kd.int .i64) _ _ _ n [.int .i64 n] from rfl) (Reps.none _ _)))
         intro v22 w2 hL2 hb2 hg2 hn2
         replace HSw := zk (HSw.out.below hb2)
         clear hg2 hn2 hz2
         obtain ⟨A22, c22, e22⟩ := Kd.R_slice hL2
         subst e22
         have HL2 := zk hL2
         clear hL2 hb2
         refine hK.out _ _ ⟨cell_of_one HSw.out.hs, cell_of_one HSw.out.ho⟩ (fun hHeld => ?_)
         clear hK K
         refine norm_ (a' := ?_) ?_ ?_
         rotate_left
         · show Act.put _ (some 22) _ = _
           simp only [Act.put, List.setIfInBounds_toArray, List.set_cons_zero, List.set_cons_succ, i64_w, i32_w]
           rfl
         refine two_ (i := 3) (j := 5) (Ni := some 23) (Nj := some 25) #[true, true, true, true, true, false, false, false, false] #[true, true, true, false, true, true, false, false, false] rfl rfl rfl rfl (by kernel_rfl) (by decide) (by decide) (fun K hK => ?_) (fun K hK => ?_)
         · skip
           refine Kd.R_append_rows_step (Kd.int .i64) (w0 := w) w.heap.size (by rfl) (.tmp 20) (.tmp 22) 22 3 (.int .i64 0) 8 rfl Try.underlying22 info3 rfl (by decide) (by omega) (.slice As ps.length cs) ps [n] _ _ _ (fun _ => True) (fun _ => False) rfl rfl HSw.out.rs (Kd.R_reads' HL2.out).2.2 (fun _ _ h => h) (fun _ h => h.elim) (fun _ _ => trivial) HSw.out.hb HSw.out.size (by simp only [List.length_cons, List.length_nil]; omega) ?_
           intro v23 w3 ho3 hb3 hg3 hat3
           replace HSw := zk (HSw.out.appS hg3 ho3 hb3)
           clear ho3 hb3 hg3 hat3 HL2
           refine hK.out _ _ ⟨cell_of_one HSw.out.hs, cell_of_one HSw.out.ho⟩ (fun hHeld => ?_)
           clear hK K
           refine norm_ (a' := ?_) ?_ ?_
           rotate_left
           · show Act.put _ (some 23) _ = _
             simp only [Act.put, List.setIfInBounds_toArray, List.set_cons_zero, List.set_cons_succ, i64_w, i32_w]
             rfl
           refine one_ (i := 5) (N := some 25) #[true, true, true, true, true, true, false, false, false] rfl rfl (by kernel_rfl) (by decide) (fun K hK => ?_)
           have hz5 := HSw.out.size
           refine Kd.R_lit_step (Kd.int .u8) _ 5 ?hg (N := 25) ?hd (xs := ([73] : List Int)) (inner := [.int .u8 73]) (ok := fun _ => True) (okp := fun _ => True) ?hr ?hp (fun _ hk => hk) trivial (Below.refl _ _) (Nat.le_refl _) (by simp) ?_; (case hd => rfl); (case hg => rfl); (case hr => first | (go_simp; done) | (go_simp; rfl)); (case hp => exact (Reps.one (show Kd.M (Kd.int .u8) _ _ _ 73 [.int .u8 73] from rfl) (Reps.none _ _)))
           intro v25 w5 hL5 hb5 hg5 hn5
           replace HSw := zk (HSw.out.below hb5)
           have HL5 := zk (Kd.R_lower hL5 hz5)
           clear hg5 hn5 hz5 hL5 hb5
           refine hK.out _ _ ⟨cell_of_one HSw.out.hs, cell_of_one HSw.out.ho⟩ (fun hHeld => ?_)
           clear hK K
           refine norm_ (a' := ?_) ?_ ?_
           rotate_left
           · show Act.put _ (some 25) _ = _
             simp only [Act.put, List.setIfInBounds_toArray, List.set_cons_zero, List.set_cons_succ, i64_w, i32_w]
             rfl
           exact norm_ (by simp only [putAll, Act.put, List.setIfInBounds_toArray, List.set_cons_zero, List.set_cons_succ]) (hCont (.slice A22 ([n] : List Int).length c22, v23, v25) _ ⟨hHeld, HSw, HL5⟩)
         · skip
           have hz5 := HSw.out.size
           refine Kd.R_lit_step (Kd.int .u8) _ 5 ?hg (N := 25) ?hd (xs := ([73] : List Int)) (inner := [.int .u8 73]) (ok := fun _ => True) (okp := fun _ => True) ?hr ?hp (fun _ hk => hk) trivial (Below.refl _ _) (Nat.le_refl _) (by simp) ?_; (case hd => rfl); (case hg => rfl); (case hr => first | (go_simp; done) | (go_simp; rfl)); (case hp => exact (Reps.one (show Kd.M (Kd.int .u8) _ _ _ 73 [.int .u8 73] from rfl) (Reps.none _ _)))
           intro v25 w5 hL5 hb5 hg5 hn5
           replace HSw := zk (HSw.out.below hb5)
           replace HL2 := zk (Kd.R_below HL2.out hb5)
           have HL5 := zk (Kd.R_lower hL5 hz5)
           clear hg5 hn5 hz5 hL5 hb5
           refine hK.out _ _ ⟨cell_of_one HSw.out.hs, cell_of_one HSw.out.ho⟩ (fun hHeld => ?_)
           clear hK K
           refine norm_ (a' := ?_) ?_ ?_
           rotate_left
           · show Act.put _ (some 25) _ = _
             simp only [Act.put, List.setIfInBounds_toArray, List.set_cons_zero, List.set_cons_succ, i64_w, i32_w]
             rfl
           refine one_ (i := 3) (N := some 23) #[true, true, true, true, true, true, false, false, false] rfl rfl (by kernel_rfl) (by decide) (fun K hK => ?_)
           refine Kd.R_append_rows_step (Kd.int .i64) (w0 := w) w.heap.size (by rfl) (.tmp 20) (.tmp 22) 22 3 (.int .i64 0) 8 rfl Try.underlying22 info3 rfl (by decide) (by omega) (.slice As ps.length cs) ps [n] _ _ _ (fun _ => True) (fun _ => False) rfl rfl HSw.out.rs (Kd.R_reads' HL2.out).2.2 (fun _ _ h => h) (fun _ h => h.elim) (fun _ _ => trivial) HSw.out.hb HSw.out.size (by simp only [List.length_cons, List.length_nil]; omega) ?_
           intro v23 w3 ho3 hb3 hg3 hat3
           replace HL5 := zk (Kd.R_over' HL5.out (Kd.R_typed HSw.out.rs) (by decide) hg3)
           replace HSw := zk (HSw.out.appS hg3 ho3 hb3)
           clear ho3 hb3 hg3 hat3 HL2
           refine hK.out _ _ ⟨cell_of_one HSw.out.hs, cell_of_one HSw.out.ho⟩ (fun hHeld => ?_)
           clear hK K
           refine norm_ (a' := ?_) ?_ ?_
           rotate_left
           · show Act.put _ (some 23) _ = _
             simp only [Act.put, List.setIfInBounds_toArray, List.set_cons_zero, List.set_cons_succ, i64_w, i32_w]
             rfl
           exact norm_ (by simp only [putAll, Act.put, List.setIfInBounds_toArray, List.set_cons_zero, List.set_cons_succ]) (hCont (.slice A22 ([n] : List Int).length c22, v23, v25) _ ⟨hHeld, HSw, HL5⟩)
       · skip
         have hz5 := HSw.out.size
         refine Kd.R_lit_step (Kd.int .u8) _ 5 ?hg (N := 25) ?hd (xs := ([73] : List Int)) (inner := [.int .u8 73]) (ok := fun _ => True) (okp := fun _ => True) ?hr ?hp (fun _ hk => hk) trivial (Below.refl _ _) (Nat.le_refl _) (by simp) ?_; (case hd => rfl); (case hg => rfl); (case hr => first | (go_simp; done) | (go_simp; rfl)); (case hp => exact (Reps.one (show Kd.M (Kd.int .u8) _ _ _ 73 [.int .u8 73] from rfl) (Reps.none _ _)))
         intro v25 w5 hL5 hb5 hg5 hn5
         replace HSw := zk (HSw.out.below hb5)
         have HL5 := zk (Kd.R_lower hL5 hz5)
         clear hg5 hn5 hz5 hL5 hb5
         refine hK.out _ _ ⟨cell_of_one HSw.out.hs, cell_of_one HSw.out.ho⟩ (fun hHeld => ?_)
         clear hK K
         refine norm_ (a' := ?_) ?_ ?_
         rotate_left
         · show Act.put _ (some 25) _ = _
           simp only [Act.put, List.setIfInBounds_toArray, List.set_cons_zero, List.set_cons_succ, i64_w, i32_w]
           rfl
         refine one_ (i := 2) (N := some 22) #[true, true, true, false, true, true, false, false, false] rfl rfl (by kernel_rfl) (by decide) (fun K hK => ?_)
         have hz2 := HSw.out.size
         refine Kd.R_lit_step (Kd.int .i64) _ 3 ?hg (N := 22) ?hd (xs := ([n] : List Int)) (inner := [.int .i64 n]) (ok := fun _ => True) (okp := fun _ => True) ?hr ?hp (fun _ hk => hk) trivial (Below.refl _ _) (Nat.le_refl _) (by simp) ?_; (case hd => rfl); (case hg => rfl); (case hr => first | (go_simp; done) | (go_simp; rfl)); (case hp => exact (Reps.one (show Kd.M (Kd.int .i64) _ _ _ n [.int .i64 n] from rfl) (Reps.none _ _)))
         intro v22 w2 hL2 hb2 hg2 hn2
         replace HSw := zk (HSw.out.below hb2)
         replace HL5 := zk (Kd.R_below HL5.out hb2)
         clear hg2 hn2 hz2
         obtain ⟨A22, c22, e22⟩ := Kd.R_slice hL2
         subst e22
         have HL2 := zk hL2
         clear hL2 hb2
         refine hK.out _ _ ⟨cell_of_one HSw.out.hs, cell_of_one HSw.out.ho⟩ (fun hHeld => ?_)
         clear hK K
         refine norm_ (a' := ?_) ?_ ?_
         rotate_left
         · show Act.put _ (some 22) _ = _
           simp only [Act.put, List.setIfInBounds_toArray, List.set_cons_zero, List.set_cons_succ, i64_w, i32_w]
           rfl
         refine one_ (i := 3) (N := some 23) #[true, true, true, true, true, true, false, false, false] rfl rfl (by kernel_rfl) (by decide) (fun K hK => ?_)
         refine Kd.R_append_rows_step (Kd.int .i64) (w0 := w) w.heap.size (by rfl) (.tmp 20) (.tmp 22) 22 3 (.int .i64 0) 8 rfl Try.underlying22 info3 rfl (by decide) (by omega) (.slice As ps.length cs) ps [n] _ _ _ (fun _ => True) (fun _ => False) rfl rfl HSw.out.rs (Kd.R_reads' HL2.out).2.2 (fun _ _ h => h) (fun _ h => h.elim) (fun _ _ => trivial) HSw.out.hb HSw.out.size (by simp only [List.length_cons, List.length_nil]; omega) ?_
         intro v23 w3 ho3 hb3 hg3 hat3
         replace HL5 := zk (Kd.R_over' HL5.out (Kd.R_typed HSw.out.rs) (by decide) hg3)
         replace HSw := zk (HSw.out.appS hg3 ho3 hb3)
         clear ho3 hb3 hg3 hat3 HL2
         refine hK.out _ _ ⟨cell_of_one HSw.out.hs, cell_of_one HSw.out.ho⟩ (fun hHeld => ?_)
         clear hK K
         refine norm_ (a' := ?_) ?_ ?_
         rotate_left
         · show Act.put _ (some 23) _ = _
           simp only [Act.put, List.setIfInBounds_toArray, List.set_cons_zero, List.set_cons_succ, i64_w, i32_w]
           rfl
         exact norm_ (by simp only [putAll, Act.put, List.setIfInBounds_toArray, List.set_cons_zero, List.set_cons_succ]) (hCont (.slice A22 ([n] : List Int).length c22, v23, v25) _ ⟨hHeld, HSw, HL5⟩)
     clear HSw hHeld
     rintro ⟨v22, v23, v25⟩ w6 ⟨hHeld, HSw, HL5⟩
     obtain ⟨A23, c23, e23⟩ := Kd.R_slice HSw.out.rs
     obtain ⟨A25, c25, e25⟩ := Kd.R_slice HL5.out
     simp only at e23 e25
     subst e23
     subst e25
     refine norm_ (a' := ?_) ?_ ?_
     rotate_left
     · simp only [putAll, Act.put, List.setIfInBounds_toArray, List.set_cons_zero, List.set_cons_succ]
       rfl
     refine one_ (i := 6) (N := some 26) #[true, true, true, true, true, true, true, false, false] rfl rfl (by kernel_rfl) (by decide) (fun K hK => ?_)
     refine Kd.R_append_rows_step (Kd.int .u8) (w0 := w) w.heap.size (by rfl) (.tmp 24) (.tmp 25) 40 5 (.int .u8 0) 1 rfl Try.underlying40 info5 rfl (by decide) (by omega) vo2 po [73] _ _ _ (fun _ => True) (fun _ => False) rfl rfl HSw.out.ro (Kd.R_reads' HL5.out).2.2 (fun _ _ h => h) (fun _ h => h.elim) (fun _ _ => trivial) HSw.out.hb HSw.out.size (by simp only [List.length_cons, List.length_nil]; omega) ?_
     intro v26 w7 ho7 hb7 hg7 hat7
     obtain ⟨A26, c26, e26⟩ := Kd.R_slice ho7
     subst e26
     replace HSw := zk (HSw.out.appO hg7 ho7 hb7)
     clear hat7 hg7 hb7 ho7 HL5
     refine hK.out _ _ ⟨cell_of_one HSw.out.hs, cell_of_one HSw.out.ho⟩ (fun hHeld => ?_)
     clear hK K
     refine norm_ (a' := ?_) ?_ ?_
     rotate_left
     · show Act.put _ (some 26) _ = _
       simp only [Act.put, List.setIfInBounds_toArray, List.set_cons_zero, List.set_cons_succ, i64_w, i32_w]
       rfl
     refine last_ (i := 7) (N := none) #[true, true, true, true, true, true, true, true, false] rfl rfl (by kernel_rfl) (by decide) (fun K hK => ?_)
     have c8 := cell_of_one HSw.out.hs
     have f8 := free_of_one HSw.out.hs
     have f9 := free_of_one HSw.out.ho
     refine skip_ (w1 := ?_) (by rfl) rfl ?_ ?_
     rotate_left
     · go_simp
       rfl
     refine hK.out _ _ ?_
     clear hK K
     refine last_ (i := 8) (N := none) #[true, true, true, true, true, true, true, true, true] rfl rfl (by kernel_rfl) (by decide) (fun K hK => ?_)
     replace HSw := zk (HSw.out.putS (.slice A23 (ps ++ [n]).length c23))
     have c9 := cell_of_one HSw.out.ho
     refine skip_ (w1 := ?_) (by rfl) rfl ?_ ?_
     rotate_left
     · go_simp
       rfl
     refine hK.out _ _ ?_
     clear hK K
     refine done_ (by kernel_rfl) ?_
     try go_wp2
     go_roundg t.length
     case measure => simp
     case rel =>
      have e := HP.out
      simp only [impl_sweepWord.goG] at e
      rw [HPO.out] at e
      have hq := HQ.out
      have HF := HSw.out.putO (.slice A26 (po.length + 1) c26)
      have HF2 : Sw w ((w7.setCell ⟨gs, 0, none⟩ (.slice A23 (ps.length + 1) c23)).setCell ⟨gs + 1, 0, none⟩ (.slice A26 (po.length + 1) c26)) gs (gs + 1) 22 40 3 5 (.slice A23 (ps.length + 1) c23) (.slice A26 (po.length + 1) c26) (.slice A23 (ps.length + 1) c23) (.slice A26 (po.length + 1) c26) (ps ++ [n]) (po ++ [73]) := by simpa using HF
      rw [show ps ++ [n] = (n :: (impl_sweepWord.popG n st out).1).reverse by rw [← HPS.out]; simp] at HF2
      have hln : (impl_sweepWord.popG n st out).1.length = ps.length := by rw [← HPS.out]; simp
      exact ⟨pre ++ [n], t, n :: (impl_sweepWord.popG n st out).1, po ++ [73], (.slice A23 (ps.length + 1) c23), (.slice A26 (po.length + 1) c26), by simp [wrap64], rfl, ⟨by rw [HL.out]; simp⟩, ⟨e⟩, ⟨by simpa using HF2⟩, ⟨by simp [hln]; omega⟩⟩
 · rw [if_neg hl] at h; cases h

end Go.Proofs.Ytlkddcabjcejdaa.MFnOneStack
