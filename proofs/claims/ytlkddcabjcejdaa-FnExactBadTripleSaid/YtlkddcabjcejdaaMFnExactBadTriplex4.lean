/- The functions that FnExactBadTriple comes to, with a walk for each. Made by this session's own program (wip/tools/mk.py), in the form of the kit's print; walks named in NOTES.md were written by hand. -/
import Derived.Test.YtlkddcabjcejdaaMFnExactBadTriplex0
import Derived.Test.YtlkddcabjcejdaaMFnExactBadTriplex1
import Derived.Test.YtlkddcabjcejdaaMFnExactBadTriplex2
import Derived.Test.YtlkddcabjcejdaaMFnExactBadTriplex3
namespace Go.Proofs.Ytlkddcabjcejdaa.MFnExactBadTriple
open Go.RowKit Go.Proofs.YtlkddcabjcejdaaW.PrintWords Go.Proofs.YtlkddcabjcejdaaW.PrintLast Go.Proofs.YtlkddcabjcejdaaW.PrintMore
attribute [local go_sem] max2_int min2_int max_two min_two max_three min_three max_four min_four   -- for this text's walks alone
set_option linter.unusedVariables false
set_option linter.unusedSimpArgs false

/-! ### impl_BadTriple: function 25 -/
section
open Go.Proofs.Ytlkddcabjcejdaa.Base
set_option maxHeartbeats 8000000 in
set_option maxRecDepth 100000 in
theorem badimpl_no (k : Nat) (A0 : Option Addr) (c0 : Nat) (l0 : List Int) (w : World) (hr0 : Kd.C (Kd.int .i64) w A0 l0.length l0) (hc0 : l0.length ≤ c0) (ho : impl_isOrder.f k l0 = some false) :
    Calls Try.prog 25 #[.slice A0 l0.length c0] w fun e w' => e = .returned (.tuple #[.agg #[.int .i64 0, .int .i64 0, .int .i64 0], .bool false]) ∧ Below w.heap.size w w' := by
  have HR0 := Aside0.mk hr0
  have HO := Aside0.mk ho
  have HB := Aside0.mk (below_alloc (Below.refl w.heap.size w) (Obj.cells #[.int .i64 0, .int .i64 0, .int .i64 0] 34))
  have HK := Aside0.mk (blk_new w (Obj.cells #[.int .i64 0, .int .i64 0, .int .i64 0] 34))
  clear hr0 ho
  go_enter Try.func25, Try.ntmps25
  go_wp2_with (go_at_call 146; refine (impl_isOrder.calls k A0 c0 l0 false _ (Kd.C_below HR0.out HB.out) hc0 HO.out).mono ?_; rintro e_ w2 ⟨rfl, hd⟩; replace HB := Aside0.mk (below_step HB.out hd.below); replace HK := Aside0.mk (blk_below HK.out hd.below); clear hd; have cb0 := blk_cell HK.out 0; have cb1 := blk_cell HK.out 1; have cb2 := blk_cell HK.out 2; have fb0 := blk_frozen HK.out 0; have fb1 := blk_frozen HK.out 1; have fb2 := blk_frozen HK.out 2)
  have HK3 := blk_set (blk_set (blk_set HK.out 0 (.int .i64 0)) 1 (.int .i64 0)) 2 (.int .i64 0)
  refine bodyPost_ret (results_ct rfl _ _ w.heap.size 34 #[.int .i64 0, .int .i64 0, .int .i64 0] (0, 0) _ rfl HK3 Try.underlying34 rfl (by kernel_rfl)) rfl ⟨?_, below_set (below_set (below_set HB.out (Nat.le_refl _)) (Nat.le_refl _)) (Nat.le_refl _)⟩
  rfl
set_option maxHeartbeats 8000000 in
set_option maxRecDepth 100000 in
theorem badimpl_none (k : Nat) (A0 : Option Addr) (c0 : Nat) (l0 ps : List Int) (w : World) (hr0 : Kd.C (Kd.int .i64) w A0 l0.length l0) (hc0 : l0.length ≤ c0) (ho : impl_isOrder.f k l0 = some true) (hp : impl_firstPlaces.f l0 [2, 3, 1] = some (ps, false)) :
    Calls Try.prog 25 #[.slice A0 l0.length c0] w fun e w' => e = .returned (.tuple #[.agg #[.int .i64 0, .int .i64 0, .int .i64 0], .bool false]) ∧ Below w.heap.size w w' := by
  have HR0 := Aside0.mk hr0
  have HO := Aside0.mk ho
  have HP := Aside0.mk hp
  have HB := Aside0.mk (below_alloc (Below.refl w.heap.size w) (Obj.cells #[.int .i64 0, .int .i64 0, .int .i64 0] 34))
  have HK := Aside0.mk (blk_new w (Obj.cells #[.int .i64 0, .int .i64 0, .int .i64 0] 34))
  clear hr0 ho hp
  go_enter Try.func25, Try.ntmps25
  go_wp2_with (first | (go_at_call 146; refine (impl_isOrder.calls k A0 c0 l0 true _ (Kd.C_below HR0.out HB.out) hc0 HO.out).mono ?_; rintro e_ w2 ⟨rfl, hd⟩; replace HB := Aside0.mk (below_step HB.out hd.below); replace HK := Aside0.mk (blk_below HK.out hd.below); clear hd) | ((with_reducible refine gate_dst (N := 12) rfl ?_); refine Kd.R_lit (Kd.int .i64) _ 3 ?hg (N := 12) ?hd (xs := ([2, 3, 1] : List Int)) (inner := [.int .i64 2, .int .i64 3, .int .i64 1]) (ok := fun _ => True) (okp := fun _ => True) ?hr ?hp (fun _ hk => hk) trivial (Below.refl _ _) (Nat.le_refl _) (by simp) ?_; (case hd => rfl); (case hg => rfl); (case hr => first | (go_simp; done) | (go_simp; rfl)); (case hp => exact (Reps.one (show Kd.M (Kd.int .i64) _ _ _ 2 [.int .i64 2] from rfl) (Reps.one (show Kd.M (Kd.int .i64) _ _ _ 3 [.int .i64 3] from rfl) (Reps.one (show Kd.M (Kd.int .i64) _ _ _ 1 [.int .i64 1] from rfl) (Reps.none _ _))))); intro v12 w3 ho3 hb3 hg_ hnew_; clear hg_ hnew_; replace HB := Aside0.mk (below_step HB.out hb3); replace HK := Aside0.mk (blk_below HK.out hb3); obtain ⟨A12, c12, e12⟩ := Kd.R_slice ho3; subst e12; have HP12 := Aside0.mk ho3; clear ho3 hb3) | (go_at_call 149; refine (impl_firstPlaces.calls A0 c0 l0 A12 c12 [2, 3, 1] ps false _ (Kd.C_below HR0.out HB.out) hc0 (Kd.R_reads' HP12.out).2.2 (Kd.R_reads' HP12.out).2.1 HP.out).mono ?_; rintro e_ w4 ⟨v4, rfl, hr4, hb4⟩; replace HB := Aside0.mk (below_step HB.out hb4); replace HK := Aside0.mk (blk_below HK.out hb4); clear hr4 hb4 HP12; have cb0 := blk_cell HK.out 0; have cb1 := blk_cell HK.out 1; have cb2 := blk_cell HK.out 2; have fb0 := blk_frozen HK.out 0; have fb1 := blk_frozen HK.out 1; have fb2 := blk_frozen HK.out 2))
  have HK3 := blk_set (blk_set (blk_set HK.out 0 (.int .i64 0)) 1 (.int .i64 0)) 2 (.int .i64 0)
  refine bodyPost_ret (results_ct rfl _ _ w.heap.size 34 #[.int .i64 0, .int .i64 0, .int .i64 0] (0, 0) _ rfl HK3 Try.underlying34 rfl (by kernel_rfl)) rfl ⟨?_, below_set (below_set (below_set HB.out (Nat.le_refl _)) (Nat.le_refl _)) (Nat.le_refl _)⟩
  rfl
set_option maxHeartbeats 8000000 in
set_option maxRecDepth 100000 in
theorem badimpl_some (k : Nat) (A0 : Option Addr) (c0 : Nat) (l0 : List Int) (p0 p1 p2 : Int) (w : World) (hr0 : Kd.C (Kd.int .i64) w A0 l0.length l0) (hc0 : l0.length ≤ c0) (ho : impl_isOrder.f k l0 = some true) (hp : impl_firstPlaces.f l0 [2, 3, 1] = some ([p0, p1, p2], true)) :
    Calls Try.prog 25 #[.slice A0 l0.length c0] w fun e w' => e = .returned (.tuple #[.agg #[.int .i64 p0, .int .i64 p1, .int .i64 p2], .bool true]) ∧ Below w.heap.size w w' := by
  have HR0 := Aside0.mk hr0
  have HO := Aside0.mk ho
  have HP := Aside0.mk hp
  have HB := Aside0.mk (below_alloc (Below.refl w.heap.size w) (Obj.cells #[.int .i64 0, .int .i64 0, .int .i64 0] 34))
  have HK := Aside0.mk (blk_new w (Obj.cells #[.int .i64 0, .int .i64 0, .int .i64 0] 34))
  clear hr0 ho hp
  have hat : ∀ (a : Addr) (c : Nat) (W : World), (Instr.arrayAt 34 (.slice (some a) 3 c)).run Try.prog W = .ok (.pointer (some a)) W := fun a c W => by simp [Instr.arrayAt, run_underlying Try.underlying34]
  go_enter Try.func25, Try.ntmps25
  go_wp2_with (first | (go_at_call 146; refine (impl_isOrder.calls k A0 c0 l0 true _ (Kd.C_below HR0.out HB.out) hc0 HO.out).mono ?_; rintro e_ w2 ⟨rfl, hd⟩; replace HB := Aside0.mk (below_step HB.out hd.below); replace HK := Aside0.mk (blk_below HK.out hd.below); clear hd) | ((with_reducible refine gate_dst (N := 12) rfl ?_); refine Kd.R_lit (Kd.int .i64) _ 3 ?hg (N := 12) ?hd (xs := ([2, 3, 1] : List Int)) (inner := [.int .i64 2, .int .i64 3, .int .i64 1]) (ok := fun _ => True) (okp := fun _ => True) ?hr ?hp (fun _ hk => hk) trivial (Below.refl _ _) (Nat.le_refl _) (by simp) ?_; (case hd => rfl); (case hg => rfl); (case hr => first | (go_simp; done) | (go_simp; rfl)); (case hp => exact (Reps.one (show Kd.M (Kd.int .i64) _ _ _ 2 [.int .i64 2] from rfl) (Reps.one (show Kd.M (Kd.int .i64) _ _ _ 3 [.int .i64 3] from rfl) (Reps.one (show Kd.M (Kd.int .i64) _ _ _ 1 [.int .i64 1] from rfl) (Reps.none _ _))))); intro v12 w3 ho3 hb3 hg_ hnew_; clear hg_ hnew_; replace HB := Aside0.mk (below_step HB.out hb3); replace HK := Aside0.mk (blk_below HK.out hb3); obtain ⟨A12, c12, e12⟩ := Kd.R_slice ho3; subst e12; have HP12 := Aside0.mk ho3; clear ho3 hb3) | (go_at_call 149; refine (impl_firstPlaces.calls A0 c0 l0 A12 c12 [2, 3, 1] [p0, p1, p2] true _ (Kd.C_below HR0.out HB.out) hc0 (Kd.R_reads' HP12.out).2.2 (Kd.R_reads' HP12.out).2.1 HP.out).mono ?_; rintro e_ w4 ⟨v4, rfl, hr4, hb4⟩; replace HB := Aside0.mk (below_step HB.out hb4); replace HK := Aside0.mk (blk_below HK.out hb4); obtain ⟨g4, c4, e4, _, _, _⟩ := Kd.R_form hr4 (by simp); subst e4; have q0 := (Kd.R_cell (0 : Int) hr4 0 (by decide) (by simp)).1; have q1 := (Kd.R_cell (0 : Int) hr4 1 (by decide) (by simp)).1; have q2 := (Kd.R_cell (0 : Int) hr4 2 (by decide) (by simp)).1; (try simp [rdOf] at q0); (try simp [rdOf] at q1); (try simp [rdOf] at q2); have HR4 := Aside0.mk hr4; clear hr4 hb4 HP12; have cb0 := blk_cell HK.out 0; have cb1 := blk_cell HK.out 1; have cb2 := blk_cell HK.out 2; have fb0 := blk_frozen HK.out 0; have fb1 := blk_frozen HK.out 1; have fb2 := blk_frozen HK.out 2))
  have HK3 := blk_set (blk_set (blk_set HK.out 0 (.int .i64 p0)) 1 (.int .i64 p1)) 2 (.int .i64 p2)
  refine bodyPost_ret (results_ct rfl _ _ w.heap.size 34 #[.int .i64 p0, .int .i64 p1, .int .i64 p2] (0, 0) _ rfl HK3 Try.underlying34 rfl (by kernel_rfl)) rfl ⟨?_, below_set (below_set (below_set HB.out (Nat.le_refl _)) (Nat.le_refl _)) (Nat.le_refl _)⟩
  rfl
def impl_BadTriple.f (k : Nat) (l0 : List Int) : Option ((Int × Int × Int) × Bool) := (impl_isOrder.f k l0).bind fun b => if b = true then ((impl_firstPlaces.f l0 [2, 3, 1]).bind fun q => match q with
  | ([p0, p1, p2], true) => some ((p0, p1, p2), true)
  | (_, true) => none
  | (_, false) => some ((0, 0, 0), false)) else some ((0, 0, 0), false)
theorem impl_BadTriple.mono : ∀ a0 k, LeO (impl_BadTriple.f k a0) (impl_BadTriple.f (k + 1) a0) := by
  intro a0 k
  unfold impl_BadTriple.f
  exact LeO.bind (impl_isOrder.mono _ _) (fun _ => LeO.refl _)
theorem impl_BadTriple.calls (k : Nat) (A0 : Option Addr) (c0 : Nat) (l0 : List Int) (r1 r2 r3 : Int) (r4 : Bool) (w : World) (hr0 : Kd.C (Kd.int .i64) w A0 l0.length l0) (hc0 : l0.length ≤ c0) (h : impl_BadTriple.f k l0 = some ((r1, r2, r3), r4)) :
    Calls Try.prog 25 #[.slice A0 l0.length c0] w fun e w' => e = .returned (.tuple #[.agg #[.int .i64 r1, .int .i64 r2, .int .i64 r3], .bool r4]) ∧ Below w.heap.size w w' := by
  unfold impl_BadTriple.f at h
  obtain ⟨b, hb, h⟩ := Option.bind_eq_some_iff.1 h
  cases b with
  | false =>
    rw [if_neg (by decide)] at h
    simp only [Option.some.injEq, Prod.mk.injEq] at h
    obtain ⟨⟨rfl, rfl, rfl⟩, rfl⟩ := h
    exact badimpl_no k A0 c0 l0 w hr0 hc0 hb
  | true =>
    rw [if_pos rfl] at h
    obtain ⟨q, hq, h⟩ := Option.bind_eq_some_iff.1 h
    obtain ⟨ps, ok⟩ := q
    cases ok with
    | false =>
      have h2 : some ((((0 : Int), (0 : Int), (0 : Int)), false)) = some ((r1, r2, r3), r4) := by
        rcases ps with _ | ⟨x, _ | ⟨y, _ | ⟨z, _ | ⟨u, t⟩⟩⟩⟩ <;> exact h
      simp only [Option.some.injEq, Prod.mk.injEq] at h2
      obtain ⟨⟨rfl, rfl, rfl⟩, rfl⟩ := h2
      exact badimpl_none k A0 c0 l0 ps w hr0 hc0 hb hq
    | true =>
      rcases ps with _ | ⟨x, _ | ⟨y, _ | ⟨z, _ | ⟨u, t⟩⟩⟩⟩
      · cases h
      · cases h
      · cases h
      · have h := Option.some.inj h
        simp only [Prod.mk.injEq] at h
        obtain ⟨⟨rfl, rfl, rfl⟩, rfl⟩ := h
        exact badimpl_some k A0 c0 l0 x y z w hr0 hc0 hb hq
      · cases h
end

/-! ### laws_eqIntA3: function 26 -/
section
open Go.Proofs.Ytlkddcabjcejdaa.Base
set_option maxHeartbeats 8000000 in
set_option maxRecDepth 100000 in
theorem laws_eqIntA3.same (a b c : Int) (w : World) :
    Calls Try.prog 26 #[.agg #[.int .i64 a, .int .i64 b, .int .i64 c], .agg #[.int .i64 a, .int .i64 b, .int .i64 c]] w fun e w' => e = .returned (.bool true) ∧ Below w.heap.size w w' := by
  have z1 : ∀ (W : World) (o : Obj), (W.alloc o).heap.size = W.heap.size + 1 := fun W o => by simp
  have hk1 := blk_alloc (blk_new w (Obj.cells #[.int .i64 a, .int .i64 b, .int .i64 c] 34)) (Obj.cells #[.int .i64 a, .int .i64 b, .int .i64 c] 34)
  have hk2 := blk_new (w.alloc (Obj.cells #[.int .i64 a, .int .i64 b, .int .i64 c] 34)) (Obj.cells #[.int .i64 a, .int .i64 b, .int .i64 c] 34)
  rw [z1] at hk2
  have HK1 := Aside0.mk hk1
  have HK2 := Aside0.mk hk2
  have HB := Aside0.mk (below_alloc (below_alloc (Below.refl w.heap.size w) (Obj.cells #[.int .i64 a, .int .i64 b, .int .i64 c] 34)) (Obj.cells #[.int .i64 a, .int .i64 b, .int .i64 c] 34))
  clear z1 hk1 hk2
  go_enter Try.func26, Try.ntmps26
  go_wp2
  go_loopg [5] 3 (fun kq v5 wr => ∃ (i : Nat), v5 = .int .i64 (i : Int) ∧ kq + i = 3 ∧ Aside0 (wr.heap[w.heap.size]? = some (.cells #[.int .i64 a, .int .i64 b, .int .i64 c] 34 (0, 0))) ∧ Aside0 (wr.heap[w.heap.size + 1]? = some (.cells #[.int .i64 a, .int .i64 b, .int .i64 c] 34 (0, 0))) ∧ Aside0 (Below w.heap.size w wr))
  case atStart => exact ⟨0, rfl, rfl, HK1, HK2, HB⟩
  case round =>
    clear HK1 HK2 HB
    obtain ⟨i, rfl, hkq, HK1, HK2, HB⟩ := hrel
    have x0 := blk_cell HK1.out 0
    have x1 := blk_cell HK1.out 1
    have x2 := blk_cell HK1.out 2
    have y0 := blk_cell HK2.out 0
    have y1 := blk_cell HK2.out 1
    have y2 := blk_cell HK2.out 2
    rcases (show i = 0 ∨ i = 1 ∨ i = 2 ∨ i = 3 by omega) with rfl | rfl | rfl | rfl
    · obtain rfl : gk = 3 := by omega
      clear hkq
      go_wp2
      go_quiet (fail)
      go_wp2
      go_roundg 2
      case measure => simp
      case rel => exact ⟨1, by simp, rfl, ⟨blk_drewN HK1.out _⟩, ⟨blk_drewN HK2.out _⟩, ⟨pw_below_drewN HB.out _⟩⟩
    · obtain rfl : gk = 2 := by omega
      clear hkq
      go_wp2
      go_quiet (fail)
      go_wp2
      go_roundg 1
      case measure => simp
      case rel => exact ⟨2, by simp, rfl, ⟨blk_drewN HK1.out _⟩, ⟨blk_drewN HK2.out _⟩, ⟨pw_below_drewN HB.out _⟩⟩
    · obtain rfl : gk = 1 := by omega
      clear hkq
      go_wp2
      go_quiet (fail)
      go_wp2
      go_roundg 0
      case measure => simp
      case rel => exact ⟨3, by simp, rfl, ⟨blk_drewN HK1.out _⟩, ⟨blk_drewN HK2.out _⟩, ⟨pw_below_drewN HB.out _⟩⟩
    · clear hkq
      go_wp2
      go_ret
      exact ⟨rfl, HB.out⟩
end

/-! ### shared: lawev0 -/
section
open Go.Proofs.Ytlkddcabjcejdaa.Base
/-! ### laws.toIntS, laws.eqIntS -/
theorem toInt_l (l : List Int) (hl : l.length * 8 ≤ 140737488351232) : ∀ (suf pre : List Int), l = pre ++ suf → Ev (fun k => laws_toIntS.l0 k l (pre ++ List.replicate suf.length 0) (pre.length : Int)) l := by
  intro suf
  induction suf with
  | nil =>
    intro pre e
    have h := len_end e
    refine ev_succ ?_
    simp only [laws_toIntS.l0.eq_2]
    refine ev_neg (by omega) ?_
    exact ev_now (by rw [e]; simp)
  | cons c suf ih =>
    intro pre e
    have h := len_mid e
    refine ev_succ ?_
    simp only [laws_toIntS.l0.eq_2, rd_mid' e]
    refine ev_pos (by omega) (ev_pos (by omega) (ev_pos (by simp; omega) ?_))
    rw [wrap_snoc (pre := pre) (c := c) (by omega)]
    have e2 : (pre ++ List.replicate (c :: suf).length 0).set ((pre.length : Int)).toNat c = (pre ++ [c]) ++ List.replicate suf.length 0 := by
      simp [List.replicate_succ]
    rw [e2]
    exact ih _ (snoc_mid e)
theorem toInt_ev (l : List Int) (hl : l.length * 8 ≤ 140737488351232) : Ev (fun k => laws_toIntS.f k l) l := by
  unfold laws_toIntS.f
  refine ev_pos (by omega) (ev_pos (by omega) ?_)
  have := toInt_l l hl l [] rfl
  simpa using this
theorem eqInt_l (a b : List Int) (hl : a.length * 8 ≤ 140737488351232) : ∀ (s t pre q : List Int), a = pre ++ s → b = q ++ t → pre.length = q.length → s.length = t.length → Ev (fun k => laws_eqIntS.l0 k a b (pre.length : Int)) (decide (s = t)) := by
  intro s
  induction s with
  | nil =>
    intro t pre q e e' h1 h2
    have h := len_end e
    obtain rfl : t = [] := by cases t with
      | nil => rfl
      | cons _ _ => simp at h2
    refine ev_succ ?_
    simp only [laws_eqIntS.l0.eq_2]
    refine ev_neg (by omega) ?_
    exact ev_now (by simp)
  | cons c s ih =>
    intro t pre q e e' h1 h2
    cases t with
    | nil => simp at h2
    | cons d t =>
    have h := len_mid e
    have h' := len_mid e'
    refine ev_succ ?_
    have r1 := rd_mid' e
    have r2 := rd_mid' e'
    rw [← h1] at r2
    simp only [laws_eqIntS.l0.eq_2, r1, r2]
    refine ev_pos (by omega) (ev_pos (by omega) (ev_pos (by omega) ?_))
    by_cases hc : c = d
    · refine ev_pos hc ?_
      rw [wrap_snoc (pre := pre) (c := c) (by omega)]
      refine ev_eq (ih t (pre ++ [c]) (q ++ [d]) (snoc_mid e) (snoc_mid e') (by simp [h1]) (by simpa using h2)) ?_
      simp [hc]
    · refine ev_neg hc (ev_now ?_)
      simp [hc]
theorem eqInt_ev (a b : List Int) (hl : a.length * 8 ≤ 140737488351232) : Ev (fun k => laws_eqIntS.f k a b) (decide (a = b)) := by
  unfold laws_eqIntS.f
  by_cases h : a.length = b.length
  · refine ev_pos (by omega) ?_
    exact eqInt_l a b hl a b [] [] rfl rfl rfl h
  · refine ev_neg (by omega) (ev_now ?_)
    symm
    exact decide_eq_false (fun e => h (by rw [e]))
end

/-! ### laws_FnExactBadTriple: function 5 -/
section
open Go.Proofs.Ytlkddcabjcejdaa.Base
def laws_FnExactBadTriple.f (k : Nat) (l0 : List Int) : Option Bool := if (l0.length : Int) > 1048576 then some true else (spec_BadTriple.f k l0).bind fun p => (impl_BadTriple.f k l0).bind fun q => if p = q then some true else none
set_option maxHeartbeats 8000000 in
set_option maxRecDepth 100000 in
theorem laws_FnExactBadTriple.calls (k : Nat) (A0 : Option Addr) (c0 : Nat) (l0 : List Int) (w : World) (hr0 : Kd.C (Kd.int .i64) w A0 l0.length l0) (hc0 : l0.length ≤ c0) (hl8 : l0.length * 8 ≤ 140737488351232) (h : laws_FnExactBadTriple.f k l0 = some true) :
    Calls Try.prog 5 #[.slice A0 l0.length c0] w fun e w' => e = .returned (.bool true) ∧ Below w.heap.size w w' := by
  unfold laws_FnExactBadTriple.f at h
  by_cases h1 : (l0.length : Int) > 1048576
  · have h1b : decide ((l0.length : Int) > 1048576) = true := decide_eq_true h1
    clear h
    go_enter Try.func5, Try.ntmps5
    go_wp2
    go_ret
    exact ⟨rfl, Below.refl _ _⟩
  · rw [if_neg h1] at h
    have h1b : decide ((l0.length : Int) > 1048576) = false := decide_eq_false h1
    obtain ⟨p, hp, h⟩ := Option.bind_eq_some_iff.1 h
    obtain ⟨q, hq, h⟩ := Option.bind_eq_some_iff.1 h
    by_cases hpq : p = q
    · subst hpq
      obtain ⟨⟨p0, p1, p2⟩, b⟩ := p
      obtain ⟨kt, ht⟩ := toInt_ev l0 hl8
      obtain ⟨ke, he⟩ := eqInt_ev l0 l0 hl8
      have HT := Aside0.mk (ht kt (Nat.le_refl _))
      have HE := Aside0.mk (by have := he ke (Nat.le_refl _); rwa [decide_eq_true rfl] at this)
      have HSP := Aside0.mk hp
      have HIM := Aside0.mk hq
      have HR0 := Aside0.mk hr0
      have hbb : (b != b) = false := by simp
      clear h hp hq ht he hr0
      go_enter Try.func5, Try.ntmps5
      go_wp2_with (fail)
      refine (laws_toIntS.calls kt A0 c0 l0 l0 _ HR0.out hc0 HT.out).mono ?_
      rintro e_ w1 ⟨v1, rfl, hv1, hb1⟩
      obtain ⟨A1, c1, e1⟩ := Kd.R_slice hv1
      subst e1
      have HV1 := Aside0.mk hv1
      have HB := Aside0.mk hb1
      clear hv1 hb1
      go_wp2_with (fail)
      refine (spec_BadTriple.calls k A1 c1 l0 p0 p1 p2 b _ (Kd.R_reads' HV1.out).2.2 (Kd.R_reads' HV1.out).2.1 HSP.out).mono ?_
      rintro e_ w2 ⟨rfl, hb2⟩
      replace HB := Aside0.mk (below_step HB.out hb2)
      clear HV1 hb2
      go_wp2_with (fail)
      refine (laws_toIntS.calls kt A0 c0 l0 l0 _ (Kd.C_alloc (Kd.C_below HR0.out HB.out) _) hc0 HT.out).mono ?_
      rintro e_ w3 ⟨v3, rfl, hv3, hb3⟩
      have HK1 := Aside0.mk (blk_below (blk_new w2 (Obj.cells #[.int .i64 p0, .int .i64 p1, .int .i64 p2] 34)) hb3)
      replace HB := Aside0.mk (below_step (below_alloc HB.out (Obj.cells #[.int .i64 p0, .int .i64 p1, .int .i64 p2] 34)) hb3)
      obtain ⟨A3, c3, e3⟩ := Kd.R_slice hv3
      subst e3
      have HV3 := Aside0.mk hv3
      clear hv3 hb3
      go_wp2_with (fail)
      refine (impl_BadTriple.calls k A3 c3 l0 p0 p1 p2 b _ (Kd.R_reads' HV3.out).2.2 (Kd.R_reads' HV3.out).2.1 HIM.out).mono ?_
      rintro e_ w4 ⟨rfl, hb4⟩
      replace HB := Aside0.mk (below_step HB.out hb4)
      replace HK1 := Aside0.mk (blk_below HK1.out hb4)
      replace HV3 := Aside0.mk (Kd.R_below HV3.out hb4)
      clear hb4
      have x0 := blk_cell (blk_alloc HK1.out (Obj.cells #[.int .i64 p0, .int .i64 p1, .int .i64 p2] 34)) 0
      have x1 := blk_cell (blk_alloc HK1.out (Obj.cells #[.int .i64 p0, .int .i64 p1, .int .i64 p2] 34)) 1
      have x2 := blk_cell (blk_alloc HK1.out (Obj.cells #[.int .i64 p0, .int .i64 p1, .int .i64 p2] 34)) 2
      have y0 := blk_cell (blk_new w4 (Obj.cells #[.int .i64 p0, .int .i64 p1, .int .i64 p2] 34)) 0
      have y1 := blk_cell (blk_new w4 (Obj.cells #[.int .i64 p0, .int .i64 p1, .int .i64 p2] 34)) 1
      have y2 := blk_cell (blk_new w4 (Obj.cells #[.int .i64 p0, .int .i64 p1, .int .i64 p2] 34)) 2
      go_wp2_with (fail)
      refine (laws_eqIntA3.same p0 p1 p2 _).mono ?_
      rintro e_ w5 ⟨rfl, hb5⟩
      replace HV3 := Aside0.mk (Kd.R_below (Kd.R_alloc HV3.out _) hb5)
      replace HB := Aside0.mk (below_step (below_alloc HB.out (Obj.cells #[.int .i64 p0, .int .i64 p1, .int .i64 p2] 34)) hb5)
      clear hb5 x0 x1 x2 y0 y1 y2 HK1
      go_wp2_with (fail)
      refine (laws_toIntS.calls kt A0 c0 l0 l0 _ (Kd.C_below HR0.out HB.out) hc0 HT.out).mono ?_
      rintro e_ w6 ⟨v6, rfl, hv6, hb6⟩
      obtain ⟨A6, c6, e6⟩ := Kd.R_slice hv6
      subst e6
      have HV6 := Aside0.mk hv6
      replace HV3 := Aside0.mk (Kd.R_below HV3.out hb6)
      replace HB := Aside0.mk (below_step HB.out hb6)
      clear hv6 hb6
      go_wp2_with (fail)
      refine (laws_eqIntS.calls ke A3 c3 l0 A6 c6 l0 true _ (Kd.R_reads' HV3.out).2.2 (Kd.R_reads' HV3.out).2.1 (Kd.R_reads' HV6.out).2.2 (Kd.R_reads' HV6.out).2.1 HE.out).mono ?_
      rintro e_ w7 ⟨rfl, ⟨n7, rfl⟩⟩
      replace HB := Aside0.mk (pw_below_drewN HB.out n7)
      clear HV6 HV3
      go_wp2_with (fail)
      go_ret
      exact ⟨rfl, HB.out⟩
    · rw [if_neg hpq] at h; cases h
/-- THE ONE PURE STATEMENT. -/
def laws_FnExactBadTriple.Pure : Prop := ∀ (l0 : List Int), l0.length ≤ maxLen → l0.length * 8 ≤ 140737488351232 → (∀ x ∈ l0, (Lit.int .i64 x).wf = true) → ∃ k, laws_FnExactBadTriple.f k l0 = some true
theorem laws_FnExactBadTriple.walk (P : laws_FnExactBadTriple.Pure) (a0 : Option Addr) (len0 cap0 : Nat) (z0 : List Int) (w : World) (w0 : (a0 = none ∧ len0 = 0 ∧ cap0 = 0 ∧ z0 = []) ∨ ∃ x, a0 = some x ∧ len0 ≤ cap0 ∧ cap0 ≤ maxLen ∧ z0.length = cap0 ∧ (∀ i, i < z0.length → w.cell? (x.add i) = some (.int .i64 (z0.getD i 0))) ∧ ∀ n ∈ z0, (Lit.int .i64 n).wf = true) (y0 : len0 * 8 ≤ 140737488351232) :
    Calls Try.prog 5 #[.slice a0 len0 cap0] w fun e w' => e = .returned (.bool true) ∧ Below w.heap.size w w' := by
  obtain ⟨l0, rfl, hr0, hm0, hw0, hc0⟩ := ReadsInt.ofRowC w0
  obtain ⟨k, h⟩ := P l0 hm0 y0 hw0
  refine (laws_FnExactBadTriple.calls k _ _ l0 w (Kd.C_of_reads (d := (0 : Int)) (h1 := fun _ => rfl) hr0) hc0 y0 h).mono ?_
  rintro e w' ⟨rfl, hd⟩
  exact ⟨rfl, hd⟩
end

end Go.Proofs.Ytlkddcabjcejdaa.MFnExactBadTriple
