/- AesOnce, as its row's step asks it. -/
import Derived.Test.YtbkobmfakkbfcaaRows
import Derived.Test.YtbkobmfakkbfcaaAesL
import Derived.Test.YtbkobmfakkbfcaaArr
namespace Go.Proofs.Ytbkobmfakkbfcaa
open Go.RowKit
theorem aesOnce_walk (k a b : List Nat) (w : World) (hk : k.length = 16) (qk : Ae.bytes k) (ha : a.length = 16) (qa : Ae.bytes a) (hb : b.length = 16) (qb : Ae.bytes b) :
    Calls Try.prog 9 #[.agg (cellsN k), .agg (cellsN a), .agg (cellsN b)] w fun e w' => e = .returned (.bool true) ∧ Below w.heap.size w w' :=
  aesOnce_small k a b w hk ha hb qk qa qb
end Go.Proofs.Ytbkobmfakkbfcaa
