/- Noughts of sixty bytes under a key are none: reckoned. -/
import Derived.Test.YtmdmhjcdaejlkaaSealP
namespace Go.Proofs.Ytmdmhjcdaejlkaa

theorem blank6 : openL (6 :: List.replicate 31 0) (List.replicate 60 0) = none := by decide +kernel
end Go.Proofs.Ytmdmhjcdaejlkaa
