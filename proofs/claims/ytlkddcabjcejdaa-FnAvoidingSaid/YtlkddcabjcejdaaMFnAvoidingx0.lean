/- The functions that FnAvoiding comes to, with a walk for each. Made by this session's own program (wip/tools/mk.py), in the form of the kit's print; walks named in NOTES.md were written by hand. -/
import Derived.Test.YtlkddcabjcejdaaProg
import Derived.Below
import Derived.Deep.Draws
import Derived.Deep.AppendLies
import Derived.Maps.AppendAt
import Derived.OwnWalk
import Derived.Laws.BytesArg
import Derived.Laws.MakeOwn
import Derived.Laws.OwnMore
import Derived.Deep.OwnRows
import Derived.Tactics
import Derived.Lib.ConvBytes
import Derived.Laws.Slices
import Derived.WalkKit
import Derived.KernelRfl
import Derived.RowKit3
import Derived.Deep.LoopGhost
import Derived.Deep.QuietTactic
import Derived.BigQuiet
import Derived.WideLaws
import Derived.Deep.DeepCutAuto
import Derived.Deep.CutBlock
import Derived.Deep.RegionHeld3
import Derived.Laws.Rows
import Derived.Lib.AppendStr
import Derived.ArgAppend
import Derived.Laws.IdiomCopy
import Derived.OrdersHeld
import Derived.Laws.BitsLemmas
import Derived.RowKit
import Derived.WalkSpells
import Derived.Test.YtlkddcabjcejdaaShelf
import Derived.Test.YtlkddcabjcejdaaBase
import Derived.Test.YtlkddcabjcejdaaBaseP
import Derived.Test.YtlkddcabjcejdaaBaseN
import Derived.Test.YtlkddcabjcejdaaBaseF
import Derived.Test.YtlkddcabjcejdaaBaseD
import Derived.Lib.SliceRun
import Derived.Test.YtlkddcabjcejdaaWWords
import Derived.Test.YtlkddcabjcejdaaWLast
import Derived.Test.YtlkddcabjcejdaaWTab
import Derived.Test.YtlkddcabjcejdaaWFour
import Derived.Test.YtlkddcabjcejdaaWQPut
import Derived.Test.YtlkddcabjcejdaaWApart
import Derived.Test.YtlkddcabjcejdaaWArr
import Derived.Test.YtlkddcabjcejdaaWZeros
import Derived.Test.YtlkddcabjcejdaaWFoot
import Derived.Test.YtlkddcabjcejdaaWKept
import Derived.Test.YtlkddcabjcejdaaWShare
import Derived.Test.YtlkddcabjcejdaaWN
import Derived.Test.YtlkddcabjcejdaaWFootNe
import Derived.Test.YtlkddcabjcejdaaWAt
import Derived.Test.YtlkddcabjcejdaaWEqStruct
import Derived.Test.YtlkddcabjcejdaaWRepsOne
import Derived.Test.YtlkddcabjcejdaaWInv
import Derived.Test.YtlkddcabjcejdaaWInvWords
import Derived.Test.YtlkddcabjcejdaaWGuard
import Derived.Test.YtlkddcabjcejdaaWNEv
import Derived.Test.YtlkddcabjcejdaaWMore
namespace Go.Proofs.Ytlkddcabjcejdaa.MFnAvoiding
open Go.RowKit Go.Proofs.YtlkddcabjcejdaaW.PrintWords Go.Proofs.YtlkddcabjcejdaaW.PrintLast Go.Proofs.YtlkddcabjcejdaaW.PrintMore
attribute [local go_sem] max2_int min2_int max_two min_two max_three min_three max_four min_four   -- for this text's walks alone
set_option linter.unusedVariables false
set_option linter.unusedSimpArgs false



def errW : Option Int → Value
 | none => .nilIface
 | some c => .iface 0 (.int .i64 c)
theorem errW_none : errW none = .nilIface := rfl
theorem errW_some (c : Int) : errW (some c) = .iface 0 (.int .i64 c) := rfl

theorem info3 : (Try.prog.info? 3).map (fun i => (i.zero, i.size, i.bytes)) = some (some (.int .i64 0), 1, 8) := by kernel_rfl
theorem info5 : (Try.prog.info? 5).map (fun i => (i.zero, i.size, i.bytes)) = some (some (.int .u8 0), 1, 1) := by kernel_rfl
theorem info22 : (Try.prog.info? 22).map (fun i => (i.zero, i.size, i.bytes)) = some (some (.slice none 0 0), 1, 24) := by kernel_rfl
-- the values' own types
def rd_L2 (xs : List (List Int)) (i : Int) : (List Int) := xs.getD i.toNat ([] : List Int)
theorem at_L2 {w : World} {A : Option Addr} {n : Nat} {xs : List (List Int)} (h : Kd.C (Kd.slice 3 (Kd.int .i64)) w A n xs) (i : Int) (h0 : 0 ≤ i) (h1 : i < n) : ∃ ad A0 c0, A = some ad ∧ w.cell? (ad.add i.toNat) = some (.slice A0 (rd_L2 xs i).length c0) ∧ (rd_L2 xs i).length ≤ c0 ∧ (Kd.int .i64).C w A0 (rd_L2 xs i).length (rd_L2 xs i) := by
 obtain ⟨ad, c, e, _, hK, hc0⟩ := Kd.C_get h ([] : List Int) i h0 h1
 have hc : ∀ j u, c[j]? = some u → w.cell? (ad.add (i.toNat * 1 + j)) = some u := hc0
 obtain ⟨A0, c0, rfl, l0, g0⟩ := hK
 exact ⟨ad, A0, c0, e, by have hq := hc 0 _ rfl; rwa [Nat.mul_one, Nat.add_zero] at hq, l0, g0⟩

def rd_L3 (xs : List (List (List Int))) (i : Int) : (List (List Int)) := xs.getD i.toNat ([] : List (List Int))
theorem at_L3 {w : World} {A : Option Addr} {n : Nat} {xs : List (List (List Int))} (h : Kd.C (Kd.slice 22 (Kd.slice 3 (Kd.int .i64))) w A n xs) (i : Int) (h0 : 0 ≤ i) (h1 : i < n) : ∃ ad A0 c0, A = some ad ∧ w.cell? (ad.add i.toNat) = some (.slice A0 (rd_L3 xs i).length c0) ∧ (rd_L3 xs i).length ≤ c0 ∧ (Kd.slice 3 (Kd.int .i64)).C w A0 (rd_L3 xs i).length (rd_L3 xs i) := by
 obtain ⟨ad, c, e, _, hK, hc0⟩ := Kd.C_get h ([] : List (List Int)) i h0 h1
 have hc : ∀ j u, c[j]? = some u → w.cell? (ad.add (i.toNat * 1 + j)) = some u := hc0
 obtain ⟨A0, c0, rfl, l0, g0⟩ := hK
 exact ⟨ad, A0, c0, e, by have hq := hc 0 _ rfl; rwa [Nat.mul_one, Nat.add_zero] at hq, l0, g0⟩

def rd_L5 (xs : List (List Int)) (i : Int) : (List Int) := xs.getD i.toNat ([] : List Int)
theorem at_L5 {w : World} {A : Option Addr} {n : Nat} {xs : List (List Int)} (h : Kd.C (Kd.slice 5 (Kd.int .u8)) w A n xs) (i : Int) (h0 : 0 ≤ i) (h1 : i < n) : ∃ ad A0 c0, A = some ad ∧ w.cell? (ad.add i.toNat) = some (.slice A0 (rd_L5 xs i).length c0) ∧ (rd_L5 xs i).length ≤ c0 ∧ (Kd.int .u8).C w A0 (rd_L5 xs i).length (rd_L5 xs i) := by
 obtain ⟨ad, c, e, _, hK, hc0⟩ := Kd.C_get h ([] : List Int) i h0 h1
 have hc : ∀ j u, c[j]? = some u → w.cell? (ad.add (i.toNat * 1 + j)) = some u := hc0
 obtain ⟨A0, c0, rfl, l0, g0⟩ := hK
 exact ⟨ad, A0, c0, e, by have hq := hc 0 _ rfl; rwa [Nat.mul_one, Nat.add_zero] at hq, l0, g0⟩

theorem zd : type_of% @pw_below_drewN := @pw_below_drewN
theorem za : type_of% @below_alloc := @below_alloc
theorem ze : type_of% @below_drew1 := @below_drew1
theorem zo : type_of% @of_decide_eq_true := @of_decide_eq_true
theorem zr : type_of% @Kd.R_drewN := @Kd.R_drewN
theorem zs : type_of% @Kd.R_alloc := @Kd.R_alloc
theorem zt : type_of% @Kd.R_drew := @Kd.R_drew
theorem zu : type_of% @Kd.C_drewN := @Kd.C_drewN
theorem zv : type_of% @Kd.C_alloc := @Kd.C_alloc
theorem zw : type_of% @Kd.C_drew := @Kd.C_drew
theorem zk {p : Prop} (h : p) : Aside0 p := ⟨h⟩
theorem zR {α : Type} {d : Kd α} {e b : Nat} {W W1 : World} {ok : Nat → Prop} {v : Value} {xs : List α} (h : Aside0 (Kd.R d e W b ok v xs)) (s : Kd.R d e W b ok v xs → Kd.R d e W1 b ok v xs := by intro h_; (with_reducible repeat (first | apply zs | apply zr | apply zt)); exact h_) : Kd.R d e W1 b ok v xs := s h.out
theorem zV {α : Type} {d : Kd α} {e b : Nat} {W W1 : World} {ok : Nat → Prop} {v : Value} {xs : List α} (h : Aside0 (Kd.V d e W b ok v xs)) (s : Kd.V d e W b ok v xs → Kd.V d e W1 b ok v xs := by intro h_; (with_reducible repeat (first | apply Kd.V_alloc | apply Kd.V_drewN | apply Kd.V_drew)); exact h_) : Kd.V d e W1 b ok v xs := s h.out
theorem zS {α : Type} {d : Kd α} {e b : Nat} {W W1 : World} {ok : Nat → Prop} {v : Value} {xs : List α} (h : Aside0 (Kd.S d e W b ok v xs)) (s : Kd.S d e W b ok v xs → Kd.S d e W1 b ok v xs := by intro h_; (with_reducible repeat (first | apply Kd.S_alloc | apply Kd.S_drewN | apply Kd.S_drew)); exact h_) : Kd.S d e W1 b ok v xs := s h.out
theorem zB {n : Nat} {w W W1 : World} (h : Aside0 (Below n w W)) (s : Below n w W → Below n w W1 := by intro h_; repeat (first | exact h_ | apply za | apply zd | apply ze)) : Below n w W1 := s h.out
theorem zBs {n g : Nat} {w W W1 : World} (h : Aside0 (Below n w W)) (q : n ≤ g) (s : Below n w W → n ≤ g → Below n w W1 := by intro h_ q_; repeat (first | (with_reducible first | exact h_ | apply za | apply zd | apply ze | refine below_set ?_ q_) | exact h_)) : Below n w W1 := s h.out q
theorem zK {w W W1 : World} {g : Nat} {o : Option Nat} (h : Aside0 (KeepBut w W g o)) (s : KeepBut w W g o → KeepBut w W1 g o := by intro h_; repeat (first | exact h_ | apply KeepBut.set_ | apply keep_drewN | apply keep_drew | apply keep_alloc)) : KeepBut w W1 g o := s h.out
theorem zC {α : Type} {d : Kd α} {W W1 : World} {A : Option Addr} {n : Nat} {xs : List α} (h : Kd.C d W A n xs) (s : Kd.C d W A n xs → Kd.C d W1 A n xs := by intro h_; repeat (first | (with_reducible exact h_) | (with_reducible refine zv ?_ _) | (with_reducible refine zu ?_ _) | (with_reducible refine zw ?_) | exact h_)) : Kd.C d W1 A n xs := s h
theorem zG {P : Program} {ops : Array Oper} {Q : Exit → Act → World → Prop} {rest : List Oper} {oi : Oper} {a : Act} {w : World} (N : Option Tmp) {f : FuncId} {fn : Func} {as_ : Array Operand} {ts : Array TypeId} (hf : P.funcs[f]? = some fn) (args : Array Value) (k : Calls P f args w fun e w' => ∃ v, e = Ending.returned v ∧ wpList P ops Q rest (a.put N v) w') (h1 : oi.dst = N := by exact rfl) (h2 : oi.guard = none := by exact rfl) (h3 : (fn.name == "runtime.NumGoroutine") = false := by kernel_rfl) (h4 : fn.body.isSome = true := by exact rfl) (h5 : oi.op = Op.call { callee := Callee.value (Operand.func f), args := as_, argTypes := ts } := by exact rfl) (h6 : Array.map a.eval as_ = args := by (try simp only [List.map_toArray, List.map_cons, List.map_nil]); first | done | rfl | (simp only [List.length_drop, List.length_take]; rfl)) : wpList P ops Q (oi :: rest) a w := goesL_ N h1 h2 hf h3 h4 args h5 h6 k
theorem zX {p : Prop} (h : p := by first | rfl | (simp; done) | (simp [*]; done)) : p := h
theorem zD {w W : World} (h : Drawn0 w W := by repeat (first | exact Drawn0.refl _ | apply Drawn0.step)) : Drawn0 w W := h
theorem zM {P : Program} {ops : Array Oper} {Q : Exit → Act → World → Prop} {md : Region.Mode} {S : World → Prop} {ds : List Nat} {fuel : Nat} {l : Array Bool} (n : Nat) {a a' : Act} {v : Value} {w : World} (k : wpAnyLast P md ops Q S ds fuel l a' w) (h : Act.put a (some n) v = a' := by simp only [Act.put, List.setIfInBounds_toArray, List.set_cons_zero, List.set_cons_succ, i64_w, i32_w]; rfl) : wpAnyLast P md ops Q S ds fuel l (Act.put a (some n) v) w := norm_ h k
theorem zP {P : Program} {ops : Array Oper} {Q : Exit → Act → World → Prop} {md : Region.Mode} {S : World → Prop} {ds : List Nat} {i : Nat} {N : Option Tmp} {oi : Oper} {v : Value} {fuel : Nat} {l : Array Bool} {a a' : Act} {w : World} (l' : Array Bool) (k : wpAnyLast P md ops Q S ds fuel l' a' w) (h1 : ops[i]? = some oi := by exact rfl) (h2 : oi.dst = N := by exact rfl) (h3 : anyB md ops l l' i = true := by kernel_rfl) (h4 : ∀ (c : List PanicEntry) (a : Act) (w : World), Q (Exit.panic c) (a.put oi.dst v) w → Q (Exit.panic c) a w := by exact fun _ _ _ h => h) (h5 : Yields P ops oi v a := by exact Or.inl ⟨by rfl, by intro w'; go_simp; with_reducible rfl⟩) (h6 : a.put N v = a' := by simp only [Act.put, List.setIfInBounds_toArray, List.set_cons_zero, List.set_cons_succ, i64_w, i32_w]; rfl) : wpAnyLast P md ops Q S ds (fuel + 1) l a w := pure_ l' h1 h2 h3 h4 h5 h6 k
theorem zE {α : Type} {d : Kd α} {e e2 b : Nat} {W W1 w1 : World} {ok ok2 : Nat → Prop} {u v : Value} {xs : List α} {β : Type} {d2 : Kd β} {ys : List β} (h : Aside0 (Kd.R d e W b ok u xs)) (ho : Kd.R d2 e2 w1 W1.heap.size ok2 v ys) (hb : Below W1.heap.size W1 w1) (s : Kd.R d e W b ok u xs → Kd.R d e W1 b ok u xs := by intro h_; (with_reducible repeat (first | apply zs | apply zr | apply zt)); exact h_) : Aside0 (Kd.R d e w1 b (fun k => ok k ∧ some k ≠ v.ownBlock) u xs) := ⟨Kd.R_elder' (s h.out) (Kd.R_base ho) hb⟩
theorem zF {w W W1 w1 : World} (h : Aside0 (Below w.heap.size w W)) (hb : Below W1.heap.size W1 w1) (s : Below w.heap.size w W → Below w.heap.size w W1 := by intro h_; repeat (first | exact h_ | apply za | apply zd | apply ze)) : Aside0 (Below w.heap.size w w1) := ⟨below_step (s h.out) hb⟩
theorem zO {α β : Type} (a : α) (f : α → Option β) : (some a).bind f = f a := rfl
theorem zQ {a a' : Act} (h : a = a' := by simp only [Act.put, List.setIfInBounds_toArray, List.set_cons_zero, List.set_cons_succ, i64_w, i32_w]; rfl) : a = a' := h
theorem reps_ints (W : World) (base : Nat) (okp : Nat → Prop) : ∀ xs : List Int, Reps (Kd.M (Kd.int .i64) W base okp) (Kd.sz (Kd.int .i64)) xs (xs.map (Value.int .i64))
  | [] => Reps.none _ _
  | x :: xs => Reps.one (show Kd.M (Kd.int .i64) W base okp x [.int .i64 x] from rfl) (reps_ints W base okp xs)
theorem zL {P : Program} {ops : Array Oper} {rest : List Oper} {o : Oper} {a : Act} {Q : Exit → Act → World → Prop} {w0 W : World} {base : Nat} (N : Tmp) (e : Nat) (xs : List Int) (hb : Below base w0 W) (hw : base ≤ W.heap.size) (k : ∀ (v1 : Value) (w1 : World), Kd.R (Kd.int .i64) e w1 base (fun _ => True) v1 xs → Below base w0 w1 → W.grownBy w1 Option.none → (∃ b, v1.ownBlock = some b ∧ W.heap.size ≤ b) → wpList P ops Q rest (a.put o.dst v1) w1) (hg : o.guard = Option.none := by exact rfl) (hd : o.dst = some N := by exact rfl) (hr : Sem.run P (execOp a.eval o) W = Result.ok (Next.value (Value.slice (some { block := W.heap.size, off := 0 }) xs.length xs.length)) (W.alloc (Obj.cells (xs.map (Value.int .i64)).toArray e)) := by first | (go_simp; done) | (go_simp; rfl)) (hs : xs.length ≤ 9223372036854775807 := by simp) : wpList P ops Q (o :: rest) a W := Kd.R_lit (Kd.int .i64) base e hg hd hr (reps_ints W base (fun _ => True) xs) (fun _ hk => hk) trivial hb hw hs k
theorem zN {α : Type} {d : Kd α} {e b : Nat} {W W1 : World} {ok : Nat → Prop} {v : Value} {xs : List α} (h : Aside0 (Kd.N d e W b ok v xs)) (s : Kd.N d e W b ok v xs → Kd.N d e W1 b ok v xs := by intro h_; (with_reducible repeat (first | apply Kd.N_alloc | apply Kd.N_drewN | apply Kd.N_drew)); exact h_) : Kd.N d e W1 b ok v xs := s h.out
theorem zEN {α : Type} {d : Kd α} {e e2 b : Nat} {W W1 w1 : World} {ok ok2 : Nat → Prop} {u v : Value} {xs : List α} {β : Type} {d2 : Kd β} {ys : List β} (h : Aside0 (Kd.N d e W b ok u xs)) (ho : Kd.R d2 e2 w1 W1.heap.size ok2 v ys) (hb : Below W1.heap.size W1 w1) (s : Kd.N d e W b ok u xs → Kd.N d e W1 b ok u xs := by intro h_; (with_reducible repeat (first | apply Kd.N_alloc | apply Kd.N_drewN | apply Kd.N_drew)); exact h_) : Aside0 (Kd.N d e w1 b (fun k => ok k ∧ some k ≠ v.ownBlock) u xs) := ⟨Kd.N_elder' (s h.out) (Kd.R_base ho) hb⟩

end Go.Proofs.Ytlkddcabjcejdaa.MFnAvoiding
