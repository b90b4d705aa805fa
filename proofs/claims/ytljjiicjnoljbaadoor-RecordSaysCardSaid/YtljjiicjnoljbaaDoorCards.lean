/-
  DERIVED. GIVEN WITH THE SEED: THE CARDS: each row of YtljjiicjnoljbaaDoorRows.lean that lists a variable, with what it lists TIED to the program's text (the seventh form; the later family's looks); each row that meets fmt, with fmt's text TOLD by the authors' own Lean function (tested against real Go, not proved from fmt's source: count such statements apart). THE CARD IS WHAT COUNTS. Prove the row's statement (the work); the ties are given (YtljjiicjnoljbaaDoorTie.lean); close each card by the builder's one call (the guide's Derived/Test/ToyasCard.lean, 'card_holds'). Laid BY PROGRAM, IN A SANDBOX (cutbox-door.mjs). By AI agents, Wed Nov 11 2026. No macro, syntax, notation, axiom, sorry.
-/
import Derived.Test.YtljjiicjnoljbaaDoorRows
import GoSem.ClaimSeven
namespace Go.Proofs.YtljjiicjnoljbaaDoor
namespace Rows

/-- THE TIED CARD OF 'wylaw.RoleSays'. -/
def roleSaysCard : Claim7 := { stood := { row := roleSaysRow, standIns := [], harness := (true, "b692cb41c9d079a3a9753961830c2b2b6aa7703ec4ff88c2b105affc389a93f2"), looks := true }, kinds := [], alts := [], laidByText := true, laidKinds := [.data, .data], laidTests := true, laidLooks := .later }
def RoleSaysCardSaid : Prop := Claim7.holds Tryd.pinned (.plain (OpenSpec.ofChange roleSaysSpec)) roleSaysCard

/-- THE TIED CARD OF 'wylaw.StorePuts'. -/
def storePutsCard : Claim7 := { stood := { row := storePutsRow, standIns := [], harness := (true, "b692cb41c9d079a3a9753961830c2b2b6aa7703ec4ff88c2b105affc389a93f2"), looks := true }, kinds := [], alts := [], laidByText := true, laidKinds := [.data, .pinned], laidTests := true, laidLooks := .later }
def StorePutsCardSaid : Prop := Claim7.holds Tryd.pinned (.plain (OpenSpec.ofChange storePutsSpec)) storePutsCard

/-- THE TIED CARD OF 'wylaw.LogSays'. -/
def logSaysCard : Claim7 := { stood := { row := logSaysRow, standIns := [], harness := (true, "b692cb41c9d079a3a9753961830c2b2b6aa7703ec4ff88c2b105affc389a93f2"), looks := true }, kinds := [], alts := [], laidByText := true, laidKinds := [.data, .data, .data, .data, .pinned], laidTests := true, laidLooks := .later }
def LogSaysCardSaid : Prop := Claim7.holds Tryd.pinned (.plain (OpenSpec.ofChange logSaysSpec)) logSaysCard

/-- THE TIED CARD OF 'wylaw.StoreSays'. -/
def storeSaysCard : Claim7 := { stood := { row := storeSaysRow, standIns := [], harness := (true, "b692cb41c9d079a3a9753961830c2b2b6aa7703ec4ff88c2b105affc389a93f2"), looks := true }, kinds := [], alts := [], laidByText := true, laidKinds := [.data, .pinned], laidTests := true, laidLooks := .later }
def StoreSaysCardSaid : Prop := Claim7.holds Tryd.pinned (.plain (OpenSpec.ofChange storeSaysSpec)) storeSaysCard

/-- THE TIED CARD OF 'wylaw.FindSays'. -/
def findSaysCard : Claim7 := { stood := { row := findSaysRow, standIns := [], harness := (true, "b692cb41c9d079a3a9753961830c2b2b6aa7703ec4ff88c2b105affc389a93f2"), looks := true }, kinds := [], alts := [], laidByText := true, laidKinds := [.data, .pinned], laidTests := true, laidLooks := .later }
def FindSaysCardSaid : Prop := Claim7.holds Tryd.pinned (.plain (OpenSpec.ofChange findSaysSpec)) findSaysCard

/-- THE TIED CARD OF 'wylaw.RecordSays'. -/
def recordSaysCard : Claim7 := { stood := { row := recordSaysRow, standIns := [], harness := (true, "b692cb41c9d079a3a9753961830c2b2b6aa7703ec4ff88c2b105affc389a93f2"), looks := true }, kinds := [], alts := [], laidByText := true, laidKinds := [.data, .pinned], laidTests := true, laidLooks := .later }
def RecordSaysCardSaid : Prop := Claim7.holds Tryd.pinned (.plain (OpenSpec.ofChange recordSaysSpec)) recordSaysCard

/-- THE TIED CARD OF 'wylaw.RecordTexts'. -/
def recordTextsCard : Claim7 := { stood := { row := recordTextsRow, standIns := [], harness := (true, "b692cb41c9d079a3a9753961830c2b2b6aa7703ec4ff88c2b105affc389a93f2"), looks := true }, kinds := [], alts := [], laidByText := true, laidKinds := [.data, .data, .data, .data, .sentinel, .sentinel, .pinned], laidTests := true, laidLooks := .later }
def RecordTextsCardSaid : Prop := Claim7.holds Tryd.pinned (.plain (OpenSpec.ofChange recordTextsSpec)) recordTextsCard

/-- THE SECOND FORM's CARD OF 'wylaw.RoleSays'. -/
def roleSaysUptoCard : Claim7 := { stood := { row := roleSaysUptoRow, standIns := [], harness := (true, "b692cb41c9d079a3a9753961830c2b2b6aa7703ec4ff88c2b105affc389a93f2"), looks := true }, kinds := [], alts := [], laidByText := true, laidKinds := [.data, .data], laidTests := true, laidLooks := .later }
def RoleSaysUptoCardSaid : Prop := Claim7.holds Tryd.pinned (.plain (OpenSpec.upto roleSaysSpec)) roleSaysUptoCard

/-- THE SECOND FORM's CARD OF 'wylaw.StorePuts'. -/
def storePutsUptoCard : Claim7 := { stood := { row := storePutsUptoRow, standIns := [], harness := (true, "b692cb41c9d079a3a9753961830c2b2b6aa7703ec4ff88c2b105affc389a93f2"), looks := true }, kinds := [], alts := [], laidByText := true, laidKinds := [.data, .pinned], laidTests := true, laidLooks := .later }
def StorePutsUptoCardSaid : Prop := Claim7.holds Tryd.pinned (.plain (OpenSpec.upto storePutsSpec)) storePutsUptoCard

/-- THE SECOND FORM's CARD OF 'wylaw.LogSays'. -/
def logSaysUptoCard : Claim7 := { stood := { row := logSaysUptoRow, standIns := [], harness := (true, "b692cb41c9d079a3a9753961830c2b2b6aa7703ec4ff88c2b105affc389a93f2"), looks := true }, kinds := [], alts := [], laidByText := true, laidKinds := [.data, .data, .data, .data, .pinned], laidTests := true, laidLooks := .later }
def LogSaysUptoCardSaid : Prop := Claim7.holds Tryd.pinned (.plain (OpenSpec.upto logSaysSpec)) logSaysUptoCard

/-- THE SECOND FORM's CARD OF 'wylaw.StoreSays'. -/
def storeSaysUptoCard : Claim7 := { stood := { row := storeSaysUptoRow, standIns := [], harness := (true, "b692cb41c9d079a3a9753961830c2b2b6aa7703ec4ff88c2b105affc389a93f2"), looks := true }, kinds := [], alts := [], laidByText := true, laidKinds := [.data, .pinned], laidTests := true, laidLooks := .later }
def StoreSaysUptoCardSaid : Prop := Claim7.holds Tryd.pinned (.plain (OpenSpec.upto storeSaysSpec)) storeSaysUptoCard

/-- THE SECOND FORM's CARD OF 'wylaw.FindSays'. -/
def findSaysUptoCard : Claim7 := { stood := { row := findSaysUptoRow, standIns := [], harness := (true, "b692cb41c9d079a3a9753961830c2b2b6aa7703ec4ff88c2b105affc389a93f2"), looks := true }, kinds := [], alts := [], laidByText := true, laidKinds := [.data, .pinned], laidTests := true, laidLooks := .later }
def FindSaysUptoCardSaid : Prop := Claim7.holds Tryd.pinned (.plain (OpenSpec.upto findSaysSpec)) findSaysUptoCard

/-- THE SECOND FORM's CARD OF 'wylaw.RecordSays'. -/
def recordSaysUptoCard : Claim7 := { stood := { row := recordSaysUptoRow, standIns := [], harness := (true, "b692cb41c9d079a3a9753961830c2b2b6aa7703ec4ff88c2b105affc389a93f2"), looks := true }, kinds := [], alts := [], laidByText := true, laidKinds := [.data, .pinned], laidTests := true, laidLooks := .later }
def RecordSaysUptoCardSaid : Prop := Claim7.holds Tryd.pinned (.plain (OpenSpec.upto recordSaysSpec)) recordSaysUptoCard

/-- THE SECOND FORM's CARD OF 'wylaw.RecordTexts'. -/
def recordTextsUptoCard : Claim7 := { stood := { row := recordTextsUptoRow, standIns := [], harness := (true, "b692cb41c9d079a3a9753961830c2b2b6aa7703ec4ff88c2b105affc389a93f2"), looks := true }, kinds := [], alts := [], laidByText := true, laidKinds := [.data, .data, .data, .data, .sentinel, .sentinel, .pinned], laidTests := true, laidLooks := .later }
def RecordTextsUptoCardSaid : Prop := Claim7.holds Tryd.pinned (.plain (OpenSpec.upto recordTextsSpec)) recordTextsUptoCard
end Rows
end Go.Proofs.YtljjiicjnoljbaaDoor
