/-
  DERIVED. GIVEN WITH THE SEED: THE CARDS: each row of YtabfcaidioohfaaDoorRows.lean that lists a variable, with what it lists TIED to the program's text (the seventh form; the later family's looks); each row that meets fmt, with fmt's text TOLD by the authors' own Lean function (tested against real Go, not proved from fmt's source: count such statements apart). THE CARD IS WHAT COUNTS. Prove the row's statement (the work); the ties are given (YtabfcaidioohfaaDoorTie.lean); close each card by the builder's one call (the guide's Derived/Test/ToyasCard.lean, 'card_holds'). Laid BY PROGRAM, IN A SANDBOX (cutbox-door.mjs). By AI agents, Wed Nov 11 2026. No macro, syntax, notation, axiom, sorry.
-/
import Derived.Test.YtabfcaidioohfaaDoorRows
import GoSem.ClaimSeven
namespace Go.Proofs.YtabfcaidioohfaaDoor
namespace Rows

/-- THE TIED CARD OF 'doorwardlaw10.KeysSeal'. -/
def keysSealCard : Claim7 := { stood := { row := keysSealRow, standIns := [], harness := (true, "db25a7c942f79baa98b3a48f85ad81daa8ff5e5921047e1504084778570755eb"), looks := false }, kinds := [], alts := [], laidByText := true, laidKinds := [.data, .data, .data], laidTests := true, laidLooks := .later }
def KeysSealCardSaid : Prop := Claim7.holds Tryd.pinned (.plain (OpenSpec.ofChange keysSealSpec)) keysSealCard

/-- THE TIED CARD OF 'doorwardlaw10.KeysTurns'. -/
def keysTurnsCard : Claim7 := { stood := { row := keysTurnsRow, standIns := [], harness := (true, "db25a7c942f79baa98b3a48f85ad81daa8ff5e5921047e1504084778570755eb"), looks := false }, kinds := [], alts := [], laidByText := true, laidKinds := [.data, .data, .data], laidTests := true, laidLooks := .later }
def KeysTurnsCardSaid : Prop := Claim7.holds Tryd.pinned (.plain (OpenSpec.ofChange keysTurnsSpec)) keysTurnsCard

/-- THE TIED CARD OF 'doorwardlaw10.KeysSized'. -/
def keysSizedCard : Claim7 := { stood := { row := keysSizedRow, standIns := [], harness := (true, "db25a7c942f79baa98b3a48f85ad81daa8ff5e5921047e1504084778570755eb"), looks := false }, kinds := [], alts := [], laidByText := true, laidKinds := [.data, .data, .data], laidTests := true, laidLooks := .later }
def KeysSizedCardSaid : Prop := Claim7.holds Tryd.pinned (.plain (OpenSpec.ofChange keysSizedSpec)) keysSizedCard

/-- THE TIED CARD OF 'doorwardlaw10.KeysRings'. -/
def keysRingsCard : Claim7 := { stood := { row := keysRingsRow, standIns := [], harness := (true, "db25a7c942f79baa98b3a48f85ad81daa8ff5e5921047e1504084778570755eb"), looks := false }, kinds := [], alts := [], laidByText := true, laidKinds := [.data, .data, .data], laidTests := true, laidLooks := .later }
def KeysRingsCardSaid : Prop := Claim7.holds Tryd.pinned (.plain (OpenSpec.ofChange keysRingsSpec)) keysRingsCard

/-- THE TIED CARD OF 'doorwardlaw10.KeysMake'. -/
def keysMakeCard : Claim7 := { stood := { row := keysMakeRow, standIns := [], harness := (true, "db25a7c942f79baa98b3a48f85ad81daa8ff5e5921047e1504084778570755eb"), looks := false }, kinds := [], alts := [], laidByText := true, laidKinds := [.data, .data, .data], laidTests := true, laidLooks := .later }
def KeysMakeCardSaid : Prop := Claim7.holds Tryd.pinned (.plain (OpenSpec.ofChange keysMakeSpec)) keysMakeCard

/-- THE TIED CARD OF 'doorwardlaw10.KeysAcross'. -/
def keysAcrossCard : Claim7 := { stood := { row := keysAcrossRow, standIns := [], harness := (true, "db25a7c942f79baa98b3a48f85ad81daa8ff5e5921047e1504084778570755eb"), looks := false }, kinds := [], alts := [], laidByText := true, laidKinds := [.data, .data, .data], laidTests := true, laidLooks := .later }
def KeysAcrossCardSaid : Prop := Claim7.holds Tryd.pinned (.plain (OpenSpec.ofChange keysAcrossSpec)) keysAcrossCard

/-- THE SECOND FORM's CARD OF 'doorwardlaw10.KeysSeal'. -/
def keysSealUptoCard : Claim7 := { stood := { row := keysSealUptoRow, standIns := [], harness := (true, "db25a7c942f79baa98b3a48f85ad81daa8ff5e5921047e1504084778570755eb"), looks := false }, kinds := [], alts := [], laidByText := true, laidKinds := [.data, .data, .data], laidTests := true, laidLooks := .later }
def KeysSealUptoCardSaid : Prop := Claim7.holds Tryd.pinned (.plain (OpenSpec.upto keysSealSpec)) keysSealUptoCard

/-- THE SECOND FORM's CARD OF 'doorwardlaw10.KeysTurns'. -/
def keysTurnsUptoCard : Claim7 := { stood := { row := keysTurnsUptoRow, standIns := [], harness := (true, "db25a7c942f79baa98b3a48f85ad81daa8ff5e5921047e1504084778570755eb"), looks := false }, kinds := [], alts := [], laidByText := true, laidKinds := [.data, .data, .data], laidTests := true, laidLooks := .later }
def KeysTurnsUptoCardSaid : Prop := Claim7.holds Tryd.pinned (.plain (OpenSpec.upto keysTurnsSpec)) keysTurnsUptoCard

/-- THE SECOND FORM's CARD OF 'doorwardlaw10.KeysSized'. -/
def keysSizedUptoCard : Claim7 := { stood := { row := keysSizedUptoRow, standIns := [], harness := (true, "db25a7c942f79baa98b3a48f85ad81daa8ff5e5921047e1504084778570755eb"), looks := false }, kinds := [], alts := [], laidByText := true, laidKinds := [.data, .data, .data], laidTests := true, laidLooks := .later }
def KeysSizedUptoCardSaid : Prop := Claim7.holds Tryd.pinned (.plain (OpenSpec.upto keysSizedSpec)) keysSizedUptoCard

/-- THE SECOND FORM's CARD OF 'doorwardlaw10.KeysRings'. -/
def keysRingsUptoCard : Claim7 := { stood := { row := keysRingsUptoRow, standIns := [], harness := (true, "db25a7c942f79baa98b3a48f85ad81daa8ff5e5921047e1504084778570755eb"), looks := false }, kinds := [], alts := [], laidByText := true, laidKinds := [.data, .data, .data], laidTests := true, laidLooks := .later }
def KeysRingsUptoCardSaid : Prop := Claim7.holds Tryd.pinned (.plain (OpenSpec.upto keysRingsSpec)) keysRingsUptoCard

/-- THE SECOND FORM's CARD OF 'doorwardlaw10.KeysMake'. -/
def keysMakeUptoCard : Claim7 := { stood := { row := keysMakeUptoRow, standIns := [], harness := (true, "db25a7c942f79baa98b3a48f85ad81daa8ff5e5921047e1504084778570755eb"), looks := false }, kinds := [], alts := [], laidByText := true, laidKinds := [.data, .data, .data], laidTests := true, laidLooks := .later }
def KeysMakeUptoCardSaid : Prop := Claim7.holds Tryd.pinned (.plain (OpenSpec.upto keysMakeSpec)) keysMakeUptoCard

/-- THE SECOND FORM's CARD OF 'doorwardlaw10.KeysAcross'. -/
def keysAcrossUptoCard : Claim7 := { stood := { row := keysAcrossUptoRow, standIns := [], harness := (true, "db25a7c942f79baa98b3a48f85ad81daa8ff5e5921047e1504084778570755eb"), looks := false }, kinds := [], alts := [], laidByText := true, laidKinds := [.data, .data, .data], laidTests := true, laidLooks := .later }
def KeysAcrossUptoCardSaid : Prop := Claim7.holds Tryd.pinned (.plain (OpenSpec.upto keysAcrossSpec)) keysAcrossUptoCard
end Rows
end Go.Proofs.YtabfcaidioohfaaDoor
