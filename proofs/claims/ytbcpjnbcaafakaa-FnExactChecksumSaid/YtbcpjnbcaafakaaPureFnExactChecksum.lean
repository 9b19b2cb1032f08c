/- The pure statement of FnExactChecksum: program and reference compute the same checksum of every string. No condition. -/
import Derived.Test.YtbcpjnbcaafakaaPFnExactChecksumx1
import Derived.Test.YtbcpjnbcaafakaaBase
namespace Go.Proofs.Ytbcpjnbcaafakaa.Pure
open Go.RowKit Go.Proofs.Ytbcpjnbcaafakaa.PFnExactChecksum Go.Proofs.YtbcpjnbcaafakaaW.PrintWords Go.Proofs.Ytbcpjnbcaafakaa.Base

def sumStep (h c : Int) : Int := Int.tmod (wrap64 ((wrap64 ((wrap64 (41 * h)) + (wrap64 c))) + 1)) 999979

theorem spec_sum (s : ByteArray) (hs : s.size ≤ 140737488351232) : ∀ (suf pre : List Int) (h : Int), bytesOf s = pre ++ suf → Ev (fun k => spec_l1Sum.l0 k s h (pre.length : Int)) (suf.foldl sumStep h) := by
  intro suf
  induction suf with
  | nil =>
    intro pre h e
    have hl := size_end e
    refine ev_succ ?_
    simp only [spec_l1Sum.l0.eq_2]
    refine ev_neg (by omega) ?_
    exact ev_now rfl
  | cons c suf ih =>
    intro pre h e
    have hl := size_mid e
    refine ev_succ ?_
    simp only [spec_l1Sum.l0.eq_2, bt_mid e]
    refine ev_pos (by omega) (ev_pos (by omega) ?_)
    rw [wrap_snoc (c := c) (by omega)]
    exact ih _ _ (snoc_mid e)

theorem impl_sum (s : ByteArray) (hs : s.size ≤ 140737488351232) : ∀ (suf pre : List Int) (h : Int), bytesOf s = pre ++ suf → Ev (fun k => impl_checksum.l0 k s h (s.size : Int) (pre.length : Int)) (suf.foldl sumStep h) := by
  intro suf
  induction suf with
  | nil =>
    intro pre h e
    have hl := size_end e
    refine ev_succ ?_
    simp only [impl_checksum.l0.eq_2]
    refine ev_neg (by omega) ?_
    exact ev_now rfl
  | cons c suf ih =>
    intro pre h e
    have hl := size_mid e
    refine ev_succ ?_
    simp only [impl_checksum.l0.eq_2, bt_mid e]
    refine ev_pos (by omega) (ev_pos (by omega) (ev_pos (by omega) ?_))
    rw [wrap_snoc (c := c) (by omega)]
    exact ih _ _ (snoc_mid e)

theorem FnExactChecksum : laws_FnExactChecksum.Pure := by
  intro s hs
  apply Ev.rounds (r := true)
  unfold laws_FnExactChecksum.f
  by_cases h1 : (s.size : Int) > 1048576
  · exact ev_pos h1 (ev_now rfl)
  refine ev_neg h1 ?_
  have hp := spec_sum s hs (bytesOf s) [] 7 rfl
  have hi := impl_sum s hs (bytesOf s) [] 7 rfl
  unfold spec_Checksum.f impl_Checksum.f
  by_cases h2 : (s.size : Int) > 4000
  · refine ev_bind (ev_pos h2 (ev_now rfl)) (ev_bind (ev_pos h2 (ev_now rfl)) ?_)
    exact ev_now rfl
  · refine ev_bind (ev_neg h2 (ev_bind hp (ev_now rfl))) (ev_bind (ev_neg h2 (ev_bind hi (ev_now rfl))) ?_)
    exact ev_pos rfl (ev_neg (by simp) (ev_now rfl))
end Go.Proofs.Ytbcpjnbcaafakaa.Pure
