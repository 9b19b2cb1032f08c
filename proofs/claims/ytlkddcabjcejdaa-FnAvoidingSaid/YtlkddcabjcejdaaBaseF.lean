/- A world in which all blocks but some stay; choose's captured variables; choose, told by what its callback does to a state. No condition. -/
import Derived.Test.YtlkddcabjcejdaaBase
import Derived.Test.YtlkddcabjcejdaaBaseN
namespace Go.Proofs.Ytlkddcabjcejdaa.Base
open Go.RowKit Go.Proofs.YtlkddcabjcejdaaW.PrintWords Go.Proofs.YtlkddcabjcejdaaW.PrintLast Go.Proofs.YtlkddcabjcejdaaW.PrintMore
set_option linter.unusedVariables false
set_option linter.unusedSimpArgs false
/-- All blocks but those of S stay. -/
structure Fr (S : Nat → Prop) (W W' : World) : Prop where
  os : W'.os = W.os
  tape : W'.tape = W.tape
  output : W'.output = W.output
  size : W.heap.size ≤ W'.heap.size
  block : ∀ k, k < W.heap.size → ¬ S k → W'.heap[k]? = W.heap[k]?
theorem Fr.refl (S : Nat → Prop) (W : World) : Fr S W W := ⟨rfl, rfl, rfl, Nat.le_refl _, fun _ _ _ => rfl⟩
theorem Fr.trans {S : Nat → Prop} {a b c : World} (h : Fr S a b) (k : Fr S b c) : Fr S a c :=
  ⟨k.os.trans h.os, k.tape.trans h.tape, k.output.trans h.output, Nat.le_trans h.size k.size, fun i hi hn => (k.block i (Nat.lt_of_lt_of_le hi h.size) hn).trans (h.block i hi hn)⟩
theorem Fr.of_below {S : Nat → Prop} {W W' : World} (h : Below W.heap.size W W') : Fr S W W' := ⟨h.os, h.tape, h.output, h.size, fun k hk _ => h.block k hk⟩
theorem Fr.below {S : Nat → Prop} {B : Nat} {W W' : World} (h : Fr S W W') (hb : B ≤ W.heap.size) (hS : ∀ k, S k → B ≤ k) : Below B W W' :=
  ⟨h.os, h.tape, h.output, h.size, fun k hk => h.block k (Nat.lt_of_lt_of_le hk hb) (fun hs => by have := hS k hs; omega)⟩
theorem Fr.set {S : Nat → Prop} {W : World} {g : Nat} (hg : S g) (i : Nat) (u : Value) : Fr S W (W.setCell ⟨g, i, none⟩ u) :=
  ⟨rfl, rfl, rfl, by simp, fun k hk hn => Below.heap_setCell W ⟨g, i, none⟩ u k (fun e => hn (by rw [e]; exact hg))⟩
theorem blk_fr {S : Nat → Prop} {W W' : World} {g : Nat} {o : Obj} (h : W.heap[g]? = some o) (hf : Fr S W W') (hn : ¬ S g) : W'.heap[g]? = some o := (hf.block g (blk_lt h) hn).trans h
theorem R_fr {S : Nat → Prop} {k : IntKind} {e : TypeId} {W W' : World} {base : Nat} {v : Value} {xs : List Int} (h : Kd.R (Kd.int k) e W base (fun k => ¬ S k) v xs) (hf : Fr S W W') : Kd.R (Kd.int k) e W' base (fun k => ¬ S k) v xs :=
  Kd.R_step h (fun k hk hlt => hf.block k hlt hk)
/-- choose's own captured variables. -/
structure Ch (tI tB tA : TypeId) (W : World) (gm gw gn ga : Nat) (vm vw vn va : Value) : Prop where
  hm : W.heap[gm]? = some (.cells #[vm] tI (0, 0))
  hw : W.heap[gw]? = some (.cells #[vw] tB (0, 0))
  hn : W.heap[gn]? = some (.cells #[vn] tI (0, 0))
  ha : W.heap[ga]? = some (.cells #[va] tA (0, 0))
theorem Ch.fr {tI tB tA : TypeId} {S : Nat → Prop} {W W' : World} {gm gw gn ga : Nat} {vm vw vn va : Value} (h : Ch tI tB tA W gm gw gn ga vm vw vn va) (hf : Fr S W W') (sm : ¬ S gm) (sw : ¬ S gw) (sn : ¬ S gn) (sa : ¬ S ga) : Ch tI tB tA W' gm gw gn ga vm vw vn va :=
  ⟨blk_fr h.hm hf sm, blk_fr h.hw hf sw, blk_fr h.hn hf sn, blk_fr h.ha hf sa⟩
/-- choose, told by what the callback does to a state: r more places may be taken, of n. -/
def loopG {σ : Type} (f : σ → List Int → σ × Bool) (n many : Nat) : Nat → List Int → σ → σ × Bool
  | 0, _, s => (s, false)
  | r + 1, done, s =>
    let p := if done.length + 1 = many then f s (done ++ [((n - (r + 1) : Nat) : Int)]) else loopG f n many r (done ++ [((n - (r + 1) : Nat) : Int)]) s
    if p.2 = true then p else loopG f n many r done p.1
def addG {σ : Type} (f : σ → List Int → σ × Bool) (n many r : Nat) (done : List Int) (s : σ) : σ × Bool := if done.length = many then f s done else loopG f n many r done s
theorem loopG_succ {σ : Type} (f : σ → List Int → σ × Bool) (n many r : Nat) (done : List Int) (s : σ) : loopG f n many (r + 1) done s =
    (if (addG f n many r (done ++ [((n - (r + 1) : Nat) : Int)]) s).2 = true then addG f n many r (done ++ [((n - (r + 1) : Nat) : Int)]) s else loopG f n many r done (addG f n many r (done ++ [((n - (r + 1) : Nat) : Int)]) s).1) := by
  simp only [loopG, addG, List.length_append, List.length_cons, List.length_nil]
theorem below_below {B B' : Nat} {W W' : World} (h : Below B' W W') (hb : B ≤ B') : Below B W W' := ⟨h.os, h.tape, h.output, h.size, fun k hk => h.block k (Nat.lt_of_lt_of_le hk hb)⟩
def atG (l xs : List Int) : List Int := xs.map (fun i => rd l i)
/-- The first row that is so, or -1. -/
def idxGo (bad : List Int → Bool) : List (List Int) → Int → Int
  | [], _ => -1
  | c :: s, i => if bad c = true then i else idxGo bad s (i + 1)
theorem idxGo_iff (bad : List Int → Bool) : ∀ (s : List (List Int)) (i : Int), 0 ≤ i → (0 ≤ idxGo bad s i ↔ s.any bad = true) := by
  intro s
  induction s with
  | nil => intro i h; simp [idxGo]
  | cons c s ih =>
    intro i h
    have e : idxGo bad (c :: s) i = if bad c = true then i else idxGo bad s (i + 1) := rfl
    rw [e, List.any_cons]
    by_cases hb : bad c = true
    · rw [if_pos hb, hb]; simp [h]
    · rw [if_neg hb, ih (i + 1) (by omega)]
      simp only [Bool.not_eq_true] at hb
      rw [hb, Bool.false_or]
theorem idxGo_any (bad : List Int → Bool) (s : List (List Int)) (i : Int) (h : 0 ≤ i) : decide (0 ≤ idxGo bad s i) = s.any bad := by
  have := idxGo_iff bad s i h
  rw [Bool.eq_iff_iff, decide_eq_true_iff]; exact this
theorem row_at {t : Nat} {w : World} {A : Option Addr} {n : Nat} {xs : List (List Int)} (h : Kd.C (Kd.slice t (Kd.int .i64)) w A n xs) (i : Int) (h0 : 0 ≤ i) (h1 : i < n) : ∃ ad A0 c0, A = some ad ∧ w.cell? (ad.add i.toNat) = some (.slice A0 (xs.getD i.toNat []).length c0) ∧ (xs.getD i.toNat []).length ≤ c0 ∧ (Kd.int .i64).C w A0 (xs.getD i.toNat []).length (xs.getD i.toNat []) := by
  obtain ⟨ad, c, e, _, hK, hc0⟩ := Kd.C_get h ([] : List Int) i h0 h1
  have hc : ∀ j u, c[j]? = some u → w.cell? (ad.add (i.toNat * 1 + j)) = some u := hc0
  obtain ⟨A0, c0, rfl, l0, g0⟩ := hK
  exact ⟨ad, A0, c0, e, by have hq := hc 0 _ rfl; rwa [Nat.mul_one, Nat.add_zero] at hq, l0, g0⟩
theorem pw_cell_below_ {w w1 : World} (h : Below w.heap.size w w1) {a : Addr} {v : Value} (hc : w.cell? a = some v) : w1.cell? a = some v := (h.cell (World.block_lt_of_cell? w a hc)).trans hc
end Go.Proofs.Ytlkddcabjcejdaa.Base
