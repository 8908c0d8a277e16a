/- Digests, part twenty-four: what a row's arguments are to the walks. Conditions: none. -/
import Derived.Test.YtgebobjihojljaaShaS
import Derived.Test.YtgebobjihojljaaEngW
namespace Go.Proofs.Ytgebobjihojljaa
open Go.Eng Go.RowKit
theorem byteW_of {xs : List Int} (h : ∀ x ∈ xs, (Lit.int .u8 x).wf = true) : byteW xs := by
  intro x hx
  have := h x hx
  simp [Lit.wf, IntKind.min, IntKind.max, IntKind.signed, IntKind.bits] at this
  omega
end Go.Proofs.Ytgebobjihojljaa
