/-
  DERIVED: THE SHELF's CONTRACTS AT THIS DUMP, IN PLAIN WORDS (tools/lay-plain.mjs out of 'TryShelf.lean', which tools/lay-shelf.mjs wrote): THE SAME DECLARATIONS UNDER THE SAME NAMES: 'import', 'namespace', 'open', 'def', 'theorem' AND NOTHING ELSE: no command of the shelf's: FOR A HAND-IN. Each laying: the table of numbers ('.._ren') and one theorem, a field a fact of the dump's own or the kernel's comparison; each contract: ONE APPLICATION.
-/
import Derived.Shelf.SlSorted.Search
import Derived.Shelf.SlicesE.Clone


import Derived.Test.YtgbgdbadifagcaaProg
namespace Go.Proofs
open Go.Shelf
def Ytgbgdbadifagcaa.search_ren : Go.Shelf.Ren := ⟨fun | 16 => 25 | n => n, fun | 3 => 3 | 35 => 52 | 4 => 4 | 38 => 56 | n => n, fun | n => n⟩
theorem Ytgbgdbadifagcaa.search : Go.Proofs.SlLaysO.n16 Try.prog Ytgbgdbadifagcaa.search_ren := {
  mixed := by kernel_rfl
  f16 := Try.func25.trans (congrArg some (by kernel_rfl))
  t3 := Try.underlying3
  a3 := Try.isAgg3
  z3 := Try.sizeOf3
  v3 := Try.zeroValue3
  t4 := Try.underlying4
  a4 := Try.isAgg4
  z4 := Try.sizeOf4
  v4 := Try.zeroValue4
  t35 := Try.underlying52
  a35 := Try.isAgg52
  z35 := Try.sizeOf52
  v35 := Try.zeroValue52
  t38 := Try.underlying56
  a38 := Try.isAgg56
  z38 := Try.sizeOf56
  v38 := Try.zeroValue56 }
def Ytgbgdbadifagcaa.clone_ren : Go.Shelf.Ren := ⟨fun | 41 => 24 | n => n, fun | 22 => 27 | 23 => 41 | 4 => 4 | n => n, fun | n => n⟩
theorem Ytgbgdbadifagcaa.clone : Go.Proofs.SlLaysE0.n41 Try.prog Ytgbgdbadifagcaa.clone_ren := {
  mixed := by kernel_rfl
  f41 := ⟨Try.f24.name, by decide, Try.func24.trans (congrArg some (by kernel_rfl))⟩
  t4 := Try.underlying4
  a4 := Try.isAgg4
  z4 := Try.sizeOf4
  v4 := Try.zeroValue4
  t22 := Try.underlying27
  a22 := Try.isAgg27
  z22 := Try.sizeOf27
  v22 := Try.zeroValue27 }
end Go.Proofs
