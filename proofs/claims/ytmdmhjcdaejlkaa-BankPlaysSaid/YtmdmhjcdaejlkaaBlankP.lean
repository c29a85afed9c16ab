/- Noughts under two keys are none: reckoned. -/
import Derived.Test.YtmdmhjcdaejlkaaSealP
namespace Go.Proofs.Ytmdmhjcdaejlkaa

theorem blank1 : openL (1 :: List.replicate 31 0) (List.replicate 40 0) = none := by decide +kernel
theorem blank2 : openL (2 :: List.replicate 31 0) (List.replicate 40 0) = none := by decide +kernel
end Go.Proofs.Ytmdmhjcdaejlkaa
