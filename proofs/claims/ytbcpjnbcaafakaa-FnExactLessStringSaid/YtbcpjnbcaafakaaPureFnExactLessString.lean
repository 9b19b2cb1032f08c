/- The pure statement of FnExactLessString: program and reference compare two strings alike. No condition. -/
import Derived.Test.YtbcpjnbcaafakaaPFnExactLessStringx1
import Derived.Test.YtbcpjnbcaafakaaBase
namespace Go.Proofs.Ytbcpjnbcaafakaa.Pure
open Go.RowKit Go.Proofs.Ytbcpjnbcaafakaa.PFnExactLessString Go.Proofs.YtbcpjnbcaafakaaW.PrintWords Go.Proofs.Ytbcpjnbcaafakaa.Base
theorem FnExactLessString : laws_FnExactLessString.Pure := by
  intro a b ha hb
  unfold laws_FnExactLessString.f spec_LessString.f impl_LessString.f
  by_cases h1 : (a.size : Int) > 1048576
  · rw [if_pos h1]
  · rw [if_neg h1]
    by_cases h2 : (b.size : Int) > 1048576
    · rw [if_pos h2]
    · rw [if_neg h2]; simp
end Go.Proofs.Ytbcpjnbcaafakaa.Pure
