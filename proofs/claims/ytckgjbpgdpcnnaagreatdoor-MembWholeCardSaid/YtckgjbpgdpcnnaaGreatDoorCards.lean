/-
  DERIVED. GIVEN WITH THE SEED: THE CARDS: each row of YtckgjbpgdpcnnaaGreatDoorRows.lean that lists a variable, with what it lists TIED to the program's text (the seventh form; the later family's looks); each row that meets fmt, with fmt's text TOLD by the authors' own Lean function (tested against real Go, not proved from fmt's source: count such statements apart). THE CARD IS WHAT COUNTS. Prove the row's statement (the work); the ties are given (YtckgjbpgdpcnnaaGreatDoorTie.lean); close each card by the builder's one call (the guide's Derived/Test/ToyasCard.lean, 'card_holds'). Laid BY PROGRAM, IN A SANDBOX (cutbox-door.mjs). By AI agents, Wed Nov 11 2026. No macro, syntax, notation, axiom, sorry.
-/
import Derived.Test.YtckgjbpgdpcnnaaGreatDoorRows
import GoSem.ClaimSeven
namespace Go.Proofs.YtckgjbpgdpcnnaaGreatDoor
namespace Rows

/-- THE TIED CARD OF 'thwartlaw08.MembTypes'. -/
def membTypesCard : Claim7 := { stood := { row := membTypesRow, standIns := [], harness := (true, "ecb09ce0c771735707518ac5184467c51387d25df5ff9968a48197dd2e9ec4ba"), looks := false }, kinds := [], alts := [], laidByText := true, laidKinds := [.data, .data, .data, .data, .pinned], laidTests := true, laidLooks := .later }
def MembTypesCardSaid : Prop := Claim7.holds Tryz.pinned (.plain (OpenSpec.ofChange membTypesSpec)) membTypesCard

/-- THE TIED CARD OF 'thwartlaw08.MembFrom'. -/
def membFromCard : Claim7 := { stood := { row := membFromRow, standIns := [], harness := (true, "ecb09ce0c771735707518ac5184467c51387d25df5ff9968a48197dd2e9ec4ba"), looks := false }, kinds := [], alts := [], laidByText := true, laidKinds := [.data, .data, .data, .data, .pinned], laidTests := true, laidLooks := .later }
def MembFromCardSaid : Prop := Claim7.holds Tryz.pinned (.plain (OpenSpec.ofChange membFromSpec)) membFromCard

/-- THE TIED CARD OF 'thwartlaw08.MembWhole'. -/
def membWholeCard : Claim7 := { stood := { row := membWholeRow, standIns := [], harness := (true, "ecb09ce0c771735707518ac5184467c51387d25df5ff9968a48197dd2e9ec4ba"), looks := false }, kinds := [], alts := [], laidByText := true, laidKinds := [.data, .data, .data, .data, .pinned], laidTests := true, laidLooks := .later }
def MembWholeCardSaid : Prop := Claim7.holds Tryz.pinned (.plain (OpenSpec.ofChange membWholeSpec)) membWholeCard

/-- THE TIED CARD OF 'thwartlaw09.ArchAnew'. -/
def archAnewCard : Claim7 := { stood := { row := archAnewRow, standIns := [], harness := (true, "ecb09ce0c771735707518ac5184467c51387d25df5ff9968a48197dd2e9ec4ba"), looks := false }, kinds := [], alts := [], laidByText := true, laidKinds := [.data, .data, .data, .data, .pinned], laidTests := true, laidLooks := .later }
def ArchAnewCardSaid : Prop := Claim7.holds Tryz.pinned (.plain (OpenSpec.ofChange archAnewSpec)) archAnewCard

/-- THE TIED CARD OF 'thwartlaw09.ArchBack'. -/
def archBackCard : Claim7 := { stood := { row := archBackRow, standIns := [], harness := (true, "ecb09ce0c771735707518ac5184467c51387d25df5ff9968a48197dd2e9ec4ba"), looks := false }, kinds := [], alts := [], laidByText := true, laidKinds := [.data, .data, .data, .data, .pinned], laidTests := true, laidLooks := .later }
def ArchBackCardSaid : Prop := Claim7.holds Tryz.pinned (.plain (OpenSpec.ofChange archBackSpec)) archBackCard

/-- THE TIED CARD OF 'thwartlaw09.ArchLays'. -/
def archLaysCard : Claim7 := { stood := { row := archLaysRow, standIns := [], harness := (true, "ecb09ce0c771735707518ac5184467c51387d25df5ff9968a48197dd2e9ec4ba"), looks := false }, kinds := [], alts := [], laidByText := true, laidKinds := [.data, .data, .data, .data, .pinned], laidTests := true, laidLooks := .later }
def ArchLaysCardSaid : Prop := Claim7.holds Tryz.pinned (.plain (OpenSpec.ofChange archLaysSpec)) archLaysCard

/-- THE TIED CARD OF 'thwartlaw10.FeedHolds'. -/
def feedHoldsCard : Claim7 := { stood := { row := feedHoldsRow, standIns := [], harness := (true, "ecb09ce0c771735707518ac5184467c51387d25df5ff9968a48197dd2e9ec4ba"), looks := false }, kinds := [], alts := [], laidByText := true, laidKinds := [.data, .data, .data, .data, .pinned], laidTests := true, laidLooks := .later }
def FeedHoldsCardSaid : Prop := Claim7.holds Tryz.pinned (.plain (OpenSpec.ofChange feedHoldsSpec)) feedHoldsCard

/-- THE TIED CARD OF 'thwartlaw38.IndexWhole'. -/
def indexWholeCard : Claim7 := { stood := { row := indexWholeRow, standIns := [], harness := (true, "ecb09ce0c771735707518ac5184467c51387d25df5ff9968a48197dd2e9ec4ba"), looks := false }, kinds := [], alts := [], laidByText := true, laidKinds := [.data, .data, .data, .data, .pinned], laidTests := true, laidLooks := .later }
def IndexWholeCardSaid : Prop := Claim7.holds Tryz.pinned (.plain (OpenSpec.ofChange indexWholeSpec)) indexWholeCard

/-- THE SECOND FORM's CARD OF 'thwartlaw08.MembTypes'. -/
def membTypesUptoCard : Claim7 := { stood := { row := membTypesUptoRow, standIns := [], harness := (true, "ecb09ce0c771735707518ac5184467c51387d25df5ff9968a48197dd2e9ec4ba"), looks := false }, kinds := [], alts := [], laidByText := true, laidKinds := [.data, .data, .data, .data, .pinned], laidTests := true, laidLooks := .later }
def MembTypesUptoCardSaid : Prop := Claim7.holds Tryz.pinned (.plain (OpenSpec.upto membTypesSpec)) membTypesUptoCard

/-- THE SECOND FORM's CARD OF 'thwartlaw08.MembFrom'. -/
def membFromUptoCard : Claim7 := { stood := { row := membFromUptoRow, standIns := [], harness := (true, "ecb09ce0c771735707518ac5184467c51387d25df5ff9968a48197dd2e9ec4ba"), looks := false }, kinds := [], alts := [], laidByText := true, laidKinds := [.data, .data, .data, .data, .pinned], laidTests := true, laidLooks := .later }
def MembFromUptoCardSaid : Prop := Claim7.holds Tryz.pinned (.plain (OpenSpec.upto membFromSpec)) membFromUptoCard

/-- THE SECOND FORM's CARD OF 'thwartlaw08.MembWhole'. -/
def membWholeUptoCard : Claim7 := { stood := { row := membWholeUptoRow, standIns := [], harness := (true, "ecb09ce0c771735707518ac5184467c51387d25df5ff9968a48197dd2e9ec4ba"), looks := false }, kinds := [], alts := [], laidByText := true, laidKinds := [.data, .data, .data, .data, .pinned], laidTests := true, laidLooks := .later }
def MembWholeUptoCardSaid : Prop := Claim7.holds Tryz.pinned (.plain (OpenSpec.upto membWholeSpec)) membWholeUptoCard

/-- THE SECOND FORM's CARD OF 'thwartlaw09.ArchAnew'. -/
def archAnewUptoCard : Claim7 := { stood := { row := archAnewUptoRow, standIns := [], harness := (true, "ecb09ce0c771735707518ac5184467c51387d25df5ff9968a48197dd2e9ec4ba"), looks := false }, kinds := [], alts := [], laidByText := true, laidKinds := [.data, .data, .data, .data, .pinned], laidTests := true, laidLooks := .later }
def ArchAnewUptoCardSaid : Prop := Claim7.holds Tryz.pinned (.plain (OpenSpec.upto archAnewSpec)) archAnewUptoCard

/-- THE SECOND FORM's CARD OF 'thwartlaw09.ArchBack'. -/
def archBackUptoCard : Claim7 := { stood := { row := archBackUptoRow, standIns := [], harness := (true, "ecb09ce0c771735707518ac5184467c51387d25df5ff9968a48197dd2e9ec4ba"), looks := false }, kinds := [], alts := [], laidByText := true, laidKinds := [.data, .data, .data, .data, .pinned], laidTests := true, laidLooks := .later }
def ArchBackUptoCardSaid : Prop := Claim7.holds Tryz.pinned (.plain (OpenSpec.upto archBackSpec)) archBackUptoCard

/-- THE SECOND FORM's CARD OF 'thwartlaw09.ArchLays'. -/
def archLaysUptoCard : Claim7 := { stood := { row := archLaysUptoRow, standIns := [], harness := (true, "ecb09ce0c771735707518ac5184467c51387d25df5ff9968a48197dd2e9ec4ba"), looks := false }, kinds := [], alts := [], laidByText := true, laidKinds := [.data, .data, .data, .data, .pinned], laidTests := true, laidLooks := .later }
def ArchLaysUptoCardSaid : Prop := Claim7.holds Tryz.pinned (.plain (OpenSpec.upto archLaysSpec)) archLaysUptoCard

/-- THE SECOND FORM's CARD OF 'thwartlaw10.FeedHolds'. -/
def feedHoldsUptoCard : Claim7 := { stood := { row := feedHoldsUptoRow, standIns := [], harness := (true, "ecb09ce0c771735707518ac5184467c51387d25df5ff9968a48197dd2e9ec4ba"), looks := false }, kinds := [], alts := [], laidByText := true, laidKinds := [.data, .data, .data, .data, .pinned], laidTests := true, laidLooks := .later }
def FeedHoldsUptoCardSaid : Prop := Claim7.holds Tryz.pinned (.plain (OpenSpec.upto feedHoldsSpec)) feedHoldsUptoCard

/-- THE SECOND FORM's CARD OF 'thwartlaw38.IndexWhole'. -/
def indexWholeUptoCard : Claim7 := { stood := { row := indexWholeUptoRow, standIns := [], harness := (true, "ecb09ce0c771735707518ac5184467c51387d25df5ff9968a48197dd2e9ec4ba"), looks := false }, kinds := [], alts := [], laidByText := true, laidKinds := [.data, .data, .data, .data, .pinned], laidTests := true, laidLooks := .later }
def IndexWholeUptoCardSaid : Prop := Claim7.holds Tryz.pinned (.plain (OpenSpec.upto indexWholeSpec)) indexWholeUptoCard
end Rows
end Go.Proofs.YtckgjbpgdpcnnaaGreatDoor
