/- A world in which all blocks stay but one and those that hold cells of one type; choose's captured variables in it. No condition. -/
import Derived.Test.YtlkddcabjcejdaaBaseF
namespace Go.Proofs.Ytlkddcabjcejdaa.Base
open Go.RowKit Go.Proofs.YtlkddcabjcejdaaW.PrintWords Go.Proofs.YtlkddcabjcejdaaW.PrintLast Go.Proofs.YtlkddcabjcejdaaW.PrintMore
set_option linter.unusedVariables false
set_option linter.unusedSimpArgs false
/-- All blocks stay but gs and those that hold cells of one type. -/
structure FrT (t : TypeId) (gs : Nat) (W W' : World) : Prop where
  os : W'.os = W.os
  tape : W'.tape = W.tape
  output : W'.output = W.output
  size : W.heap.size ≤ W'.heap.size
  block : ∀ k, k < W.heap.size → k ≠ gs → (∀ cells, W.heap[k]? ≠ some (.cells cells t (0, 0))) → W'.heap[k]? = W.heap[k]?
theorem FrT.refl {t gs : Nat} (W : World) : FrT t gs W W := ⟨rfl, rfl, rfl, Nat.le_refl _, fun _ _ _ _ => rfl⟩
theorem FrT.trans {t gs : Nat} {a b c : World} (h : FrT t gs a b) (k : FrT t gs b c) : FrT t gs a c :=
  ⟨k.os.trans h.os, k.tape.trans h.tape, k.output.trans h.output, Nat.le_trans h.size k.size, fun i hi hn ht => (k.block i (Nat.lt_of_lt_of_le hi h.size) hn (by rw [h.block i hi hn ht]; exact ht)).trans (h.block i hi hn ht)⟩
theorem FrT.of_below {t gs : Nat} {W W' : World} (h : Below W.heap.size W W') : FrT t gs W W' := ⟨h.os, h.tape, h.output, h.size, fun k hk _ _ => h.block k hk⟩
theorem FrT.set {t gs : Nat} {W : World} (i : Nat) (u : Value) : FrT t gs W (W.setCell ⟨gs, i, none⟩ u) :=
  ⟨rfl, rfl, rfl, by simp, fun k hk hn _ => Below.heap_setCell W ⟨gs, i, none⟩ u k hn⟩
theorem FrT.of_grown {t gs : Nat} {W W' : World} {row : Option Nat} (h : W.grownBy W' row) (ht : ∀ k, row = some k → ∃ cells, W.heap[k]? = some (.cells cells t (0, 0))) : FrT t gs W W' :=
  ⟨h.os, h.tape, h.output, h.size, fun k hk _ hn => h.block k hk (fun e => by obtain ⟨c, hc⟩ := ht k e.symm; exact hn c hc)⟩
theorem blk_frT {t gs : Nat} {W W' : World} {g : Nat} {cs : Array Value} {t' : TypeId} (h : W.heap[g]? = some (.cells cs t' (0, 0))) (hf : FrT t gs W W') (hn : g ≠ gs) (ht : t' ≠ t) : W'.heap[g]? = some (.cells cs t' (0, 0)) :=
  (hf.block g (blk_lt h) hn (fun c hc => ht (by rw [h] at hc; injection hc with hc; injection hc))).trans h
theorem R_frT {t gs : Nat} {k : IntKind} {e : TypeId} {W W' : World} {base : Nat} {v : Value} {xs : List Int} (ht : e ≠ t) (h : Kd.R (Kd.int k) e W base (fun k => k ≠ gs) v xs) (hf : FrT t gs W W') : Kd.R (Kd.int k) e W' base (fun k => k ≠ gs) v xs :=
  Kd.R_mono (Kd.R_move (Kd.R_bound h) (fun k hk => hf.block k hk.2.2.1 hk.1 (fun c hc => by
    obtain ⟨q, hq, cells, he⟩ := hk.2.2.2
    rw [he] at hc
    injection hc with hc
    injection hc with _ h2
    rcases List.mem_cons.1 hq with rfl | hq
    · exact ht h2
    · cases hq))) (fun _ hk => hk.1)
theorem Ch.frT {tI tB tA : TypeId} {t gs : Nat} {W W' : World} {gm gw gn ga : Nat} {vm vw vn va : Value} (h : Ch tI tB tA W gm gw gn ga vm vw vn va) (hf : FrT t gs W W') (n1 : tI ≠ t) (n2 : tB ≠ t) (n3 : tA ≠ t) (sm : gm ≠ gs) (sw : gw ≠ gs) (sn : gn ≠ gs) (sa : ga ≠ gs) : Ch tI tB tA W' gm gw gn ga vm vw vn va :=
  ⟨blk_frT h.hm hf sm n1, blk_frT h.hw hf sw n2, blk_frT h.hn hf sn n1, blk_frT h.ha hf sa n3⟩
end Go.Proofs.Ytlkddcabjcejdaa.Base
