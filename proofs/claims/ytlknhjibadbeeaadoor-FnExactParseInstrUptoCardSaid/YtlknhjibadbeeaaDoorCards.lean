/-
  DERIVED. GIVEN WITH THE SEED: THE CARDS: each row of YtlknhjibadbeeaaDoorRows.lean that lists a variable, with what it lists TIED to the program's text (the seventh form; the later family's looks); each row that meets fmt, with fmt's text TOLD by the authors' own Lean function (tested against real Go, not proved from fmt's source: count such statements apart). THE CARD IS WHAT COUNTS. Prove the row's statement (the work); the ties are given (YtlknhjibadbeeaaDoorTie.lean); close each card by the builder's one call (the guide's Derived/Test/ToyasCard.lean, 'card_holds'). Laid BY PROGRAM, IN A SANDBOX (cutbox-door.mjs). By AI agents, Wed Nov 11 2026. No macro, syntax, notation, axiom, sorry.
-/
import Derived.Test.YtlknhjibadbeeaaDoorRows
import GoSem.ClaimSeven
namespace Go.Proofs.YtlknhjibadbeeaaDoor
namespace Rows

/-- THE TIED CARD OF 'laws.FnExactFormatCode'. -/
def fnExactFormatCodeCard : Claim7 := { stood := { row := fnExactFormatCodeRow, standIns := [], harness := (true, "bf45909f9f804c294f9f429cd369b7a2370906183a67c792b2ed214bcb4d2393"), looks := true }, kinds := [], alts := [], laidByText := true, laidKinds := [.data, .data, .data], laidTests := true, laidLooks := .later }
def FnExactFormatCodeCardSaid : Prop := Claim7.holds Tryd.pinned (.plain (OpenSpec.ofChange fnExactFormatCodeSpec)) fnExactFormatCodeCard

/-- THE TIED CARD OF 'laws.FnExactCandidates'. -/
def fnExactCandidatesCard : Claim7 := { stood := { row := fnExactCandidatesRow, standIns := [], harness := (true, "bf45909f9f804c294f9f429cd369b7a2370906183a67c792b2ed214bcb4d2393"), looks := true }, kinds := [], alts := [], laidByText := true, laidKinds := [.data, .data, .data], laidTests := true, laidLooks := .later }
def FnExactCandidatesCardSaid : Prop := Claim7.holds Tryd.pinned (.plain (OpenSpec.ofChange fnExactCandidatesSpec)) fnExactCandidatesCard

/-- THE TIED CARD OF 'laws.FnExactParseInstr'. -/
def fnExactParseInstrCard : Claim7 := { stood := { row := fnExactParseInstrRow, standIns := [], harness := (true, "bf45909f9f804c294f9f429cd369b7a2370906183a67c792b2ed214bcb4d2393"), looks := true }, kinds := [], alts := [], laidByText := true, laidKinds := [.data, .data, .data, .data, .sentinel, .sentinel, .pinned], laidTests := true, laidLooks := .later }
def FnExactParseInstrCardSaid : Prop := Claim7.holds Tryd.pinned (.plain (OpenSpec.ofChange fnExactParseInstrSpec)) fnExactParseInstrCard

/-- THE SECOND FORM's CARD OF 'laws.FnExactFormatCode'. -/
def fnExactFormatCodeUptoCard : Claim7 := { stood := { row := fnExactFormatCodeUptoRow, standIns := [], harness := (true, "bf45909f9f804c294f9f429cd369b7a2370906183a67c792b2ed214bcb4d2393"), looks := true }, kinds := [], alts := [], laidByText := true, laidKinds := [.data, .data, .data], laidTests := true, laidLooks := .later }
def FnExactFormatCodeUptoCardSaid : Prop := Claim7.holds Tryd.pinned (.plain (OpenSpec.upto fnExactFormatCodeSpec)) fnExactFormatCodeUptoCard

/-- THE SECOND FORM's CARD OF 'laws.FnExactCandidates'. -/
def fnExactCandidatesUptoCard : Claim7 := { stood := { row := fnExactCandidatesUptoRow, standIns := [], harness := (true, "bf45909f9f804c294f9f429cd369b7a2370906183a67c792b2ed214bcb4d2393"), looks := true }, kinds := [], alts := [], laidByText := true, laidKinds := [.data, .data, .data], laidTests := true, laidLooks := .later }
def FnExactCandidatesUptoCardSaid : Prop := Claim7.holds Tryd.pinned (.plain (OpenSpec.upto fnExactCandidatesSpec)) fnExactCandidatesUptoCard

/-- THE SECOND FORM's CARD OF 'laws.FnExactParseInstr'. -/
def fnExactParseInstrUptoCard : Claim7 := { stood := { row := fnExactParseInstrUptoRow, standIns := [], harness := (true, "bf45909f9f804c294f9f429cd369b7a2370906183a67c792b2ed214bcb4d2393"), looks := true }, kinds := [], alts := [], laidByText := true, laidKinds := [.data, .data, .data, .data, .sentinel, .sentinel, .pinned], laidTests := true, laidLooks := .later }
def FnExactParseInstrUptoCardSaid : Prop := Claim7.holds Tryd.pinned (.plain (OpenSpec.upto fnExactParseInstrSpec)) fnExactParseInstrUptoCard
end Rows
end Go.Proofs.YtlknhjibadbeeaaDoor
