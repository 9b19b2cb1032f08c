/- The pure statement of FnExactCountOneStack: program and reference count the same for every number. No condition. -/
import Derived.Test.YtbcpjnbcaafakaaMFnExactCountOneStackx1
import Derived.Test.YtbcpjnbcaafakaaBase
namespace Go.Proofs.Ytbcpjnbcaafakaa.Pure
open Go.RowKit Go.Proofs.Ytbcpjnbcaafakaa.MFnExactCountOneStack Go.Proofs.YtbcpjnbcaafakaaW.PrintWords Go.Proofs.Ytbcpjnbcaafakaa.Base
set_option linter.unusedVariables false
set_option linter.unusedSimpArgs false
theorem few : ∀ a : Fin 7, laws_FnExactCountOneStack.f 400 ((a.val + 1 : Nat) : Int) = some true := by decide +kernel
theorem FnExactCountOneStack : laws_FnExactCountOneStack.Pure := by
  intro a h
  by_cases hr : 1 ≤ a ∧ a ≤ 7
  · refine ⟨400, ?_⟩
    have := few ⟨(a - 1).toNat, by omega⟩
    rwa [show (((a - 1).toNat + 1 : Nat) : Int) = a by omega] at this
  · refine ⟨1, ?_⟩
    have e1 : spec_l1In.f a 1 7 = some false := by
      unfold spec_l1In.f
      by_cases h : a ≥ 1
      · rw [if_pos h]; simp; omega
      · rw [if_neg h]
    have e2 : impl_isSize.f a = some false := by
      unfold impl_isSize.f
      by_cases h : a ≥ 1
      · rw [if_pos h]; simp; omega
      · rw [if_neg h]
    simp [laws_FnExactCountOneStack.f, spec_CountOneStack.f, impl_CountOneStack.f, e1, e2]
end Go.Proofs.Ytbcpjnbcaafakaa.Pure
