/-
  DERIVED. GIVEN WITH THE SEED: THE CARDS: each row of YtanigdadhldceaaDoorRows.lean that lists a variable, with what it lists TIED to the program's text (the seventh form; the later family's looks); each row that meets fmt, with fmt's text TOLD by the authors' own Lean function (tested against real Go, not proved from fmt's source: count such statements apart). THE CARD IS WHAT COUNTS. Prove the row's statement (the work); the ties are given (YtanigdadhldceaaDoorTie.lean); close each card by the builder's one call (the guide's Derived/Test/ToyasCard.lean, 'card_holds'). Laid BY PROGRAM, IN A SANDBOX (cutbox-door.mjs). By AI agents, Wed Nov 11 2026. No macro, syntax, notation, axiom, sorry.
-/
import Derived.Test.YtanigdadhldceaaDoorRows
import GoSem.ClaimSeven
namespace Go.Proofs.YtanigdadhldceaaDoor
namespace Rows

/-- THE TIED CARD OF 'doorwardlaw07.HashSums'. -/
def hashSumsCard : Claim7 := { stood := { row := hashSumsRow, standIns := [], harness := (true, "133d992df94deb7d056314ce65c2bfa7ab2ee33c65ca607b12e830a68cb8ddf6"), looks := false }, kinds := [], alts := [], laidByText := true, laidKinds := [.data, .data], laidTests := true, laidLooks := .later }
def HashSumsCardSaid : Prop := Claim7.holds Tryd.pinned (.plain (OpenSpec.ofChange hashSumsSpec)) hashSumsCard

/-- THE TIED CARD OF 'doorwardlaw07.HashExpands'. -/
def hashExpandsCard : Claim7 := { stood := { row := hashExpandsRow, standIns := [], harness := (true, "133d992df94deb7d056314ce65c2bfa7ab2ee33c65ca607b12e830a68cb8ddf6"), looks := false }, kinds := [], alts := [], laidByText := true, laidKinds := [.data, .data], laidTests := true, laidLooks := .later }
def HashExpandsCardSaid : Prop := Claim7.holds Tryd.pinned (.plain (OpenSpec.ofChange hashExpandsSpec)) hashExpandsCard

/-- THE TIED CARD OF 'doorwardlaw07.HashMore'. -/
def hashMoreCard : Claim7 := { stood := { row := hashMoreRow, standIns := [], harness := (true, "133d992df94deb7d056314ce65c2bfa7ab2ee33c65ca607b12e830a68cb8ddf6"), looks := false }, kinds := [], alts := [], laidByText := true, laidKinds := [.data, .data], laidTests := true, laidLooks := .later }
def HashMoreCardSaid : Prop := Claim7.holds Tryd.pinned (.plain (OpenSpec.ofChange hashMoreSpec)) hashMoreCard

/-- THE TIED CARD OF 'doorwardlaw07.HashLong'. -/
def hashLongCard : Claim7 := { stood := { row := hashLongRow, standIns := [], harness := (true, "133d992df94deb7d056314ce65c2bfa7ab2ee33c65ca607b12e830a68cb8ddf6"), looks := false }, kinds := [], alts := [], laidByText := true, laidKinds := [.data, .data], laidTests := true, laidLooks := .later }
def HashLongCardSaid : Prop := Claim7.holds Tryd.pinned (.plain (OpenSpec.ofChange hashLongSpec)) hashLongCard

/-- THE TIED CARD OF 'doorwardlaw07.HashKeys'. -/
def hashKeysCard : Claim7 := { stood := { row := hashKeysRow, standIns := [], harness := (true, "133d992df94deb7d056314ce65c2bfa7ab2ee33c65ca607b12e830a68cb8ddf6"), looks := false }, kinds := [], alts := [], laidByText := true, laidKinds := [.data, .data], laidTests := true, laidLooks := .later }
def HashKeysCardSaid : Prop := Claim7.holds Tryd.pinned (.plain (OpenSpec.ofChange hashKeysSpec)) hashKeysCard

/-- THE SECOND FORM's CARD OF 'doorwardlaw07.HashSums'. -/
def hashSumsUptoCard : Claim7 := { stood := { row := hashSumsUptoRow, standIns := [], harness := (true, "133d992df94deb7d056314ce65c2bfa7ab2ee33c65ca607b12e830a68cb8ddf6"), looks := false }, kinds := [], alts := [], laidByText := true, laidKinds := [.data, .data], laidTests := true, laidLooks := .later }
def HashSumsUptoCardSaid : Prop := Claim7.holds Tryd.pinned (.plain (OpenSpec.upto hashSumsSpec)) hashSumsUptoCard

/-- THE SECOND FORM's CARD OF 'doorwardlaw07.HashExpands'. -/
def hashExpandsUptoCard : Claim7 := { stood := { row := hashExpandsUptoRow, standIns := [], harness := (true, "133d992df94deb7d056314ce65c2bfa7ab2ee33c65ca607b12e830a68cb8ddf6"), looks := false }, kinds := [], alts := [], laidByText := true, laidKinds := [.data, .data], laidTests := true, laidLooks := .later }
def HashExpandsUptoCardSaid : Prop := Claim7.holds Tryd.pinned (.plain (OpenSpec.upto hashExpandsSpec)) hashExpandsUptoCard

/-- THE SECOND FORM's CARD OF 'doorwardlaw07.HashMore'. -/
def hashMoreUptoCard : Claim7 := { stood := { row := hashMoreUptoRow, standIns := [], harness := (true, "133d992df94deb7d056314ce65c2bfa7ab2ee33c65ca607b12e830a68cb8ddf6"), looks := false }, kinds := [], alts := [], laidByText := true, laidKinds := [.data, .data], laidTests := true, laidLooks := .later }
def HashMoreUptoCardSaid : Prop := Claim7.holds Tryd.pinned (.plain (OpenSpec.upto hashMoreSpec)) hashMoreUptoCard

/-- THE SECOND FORM's CARD OF 'doorwardlaw07.HashLong'. -/
def hashLongUptoCard : Claim7 := { stood := { row := hashLongUptoRow, standIns := [], harness := (true, "133d992df94deb7d056314ce65c2bfa7ab2ee33c65ca607b12e830a68cb8ddf6"), looks := false }, kinds := [], alts := [], laidByText := true, laidKinds := [.data, .data], laidTests := true, laidLooks := .later }
def HashLongUptoCardSaid : Prop := Claim7.holds Tryd.pinned (.plain (OpenSpec.upto hashLongSpec)) hashLongUptoCard

/-- THE SECOND FORM's CARD OF 'doorwardlaw07.HashKeys'. -/
def hashKeysUptoCard : Claim7 := { stood := { row := hashKeysUptoRow, standIns := [], harness := (true, "133d992df94deb7d056314ce65c2bfa7ab2ee33c65ca607b12e830a68cb8ddf6"), looks := false }, kinds := [], alts := [], laidByText := true, laidKinds := [.data, .data], laidTests := true, laidLooks := .later }
def HashKeysUptoCardSaid : Prop := Claim7.holds Tryd.pinned (.plain (OpenSpec.upto hashKeysSpec)) hashKeysUptoCard
end Rows
end Go.Proofs.YtanigdadhldceaaDoor
