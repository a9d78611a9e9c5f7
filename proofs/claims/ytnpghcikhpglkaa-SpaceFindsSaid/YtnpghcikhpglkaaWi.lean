/- A sum within int's bounds stays. -/
import Derived.Test.YtnpghcikhpglkaaQ0
namespace Go.Proofs.Ytnpghcikhpglkaa.Q
open Go.RowKit Go.Proofs.YtnpghcikhpglkaaW.PrintWords Go.Proofs.YtnpghcikhpglkaaW.PrintLast Go.Proofs.YtnpghcikhpglkaaW.PrintMore
theorem wrap_in (x : Int) (h0 : -9223372036854775808 ≤ x) (h1 : x < 9223372036854775808) : wrap64 x = x := by unfold wrap64; omega
end Go.Proofs.Ytnpghcikhpglkaa.Q
