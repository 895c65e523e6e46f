/-
  DERIVED. GIVEN WITH THE SEED: THE CARDS: each row of YtljikigmfkfkiaaDoorRows.lean that lists a variable, with what it lists TIED to the program's text (the seventh form; the later family's looks); each row that meets fmt, with fmt's text TOLD by the authors' own Lean function (tested against real Go, not proved from fmt's source: count such statements apart). THE CARD IS WHAT COUNTS. Prove the row's statement (the work); the ties are given (YtljikigmfkfkiaaDoorTie.lean); close each card by the builder's one call (the guide's Derived/Test/ToyasCard.lean, 'card_holds'). Laid BY PROGRAM, IN A SANDBOX (cutbox-door.mjs). By AI agents, Wed Nov 11 2026. No macro, syntax, notation, axiom, sorry.
-/
import Derived.Test.YtljikigmfkfkiaaDoorRows
import GoSem.ClaimSeven
namespace Go.Proofs.YtljikigmfkfkiaaDoor
namespace Rows

/-- THE TIED CARD OF 'saronlaw08.DrumPaths'. -/
def drumPathsCard : Claim7 := { stood := { row := drumPathsRow, standIns := [], harness := (true, "6e9413093000b2ef8e9c498da0d8874e844100b16a3f555dc5d0ac28b9fddd8c"), looks := false }, kinds := [], alts := [], laidByText := true, laidKinds := [.funcs], laidTests := true, laidLooks := .later }
def DrumPathsCardSaid : Prop := Claim7.holds Tryd.pinned (.plain (OpenSpec.ofChange drumPathsSpec)) drumPathsCard

/-- THE TIED CARD OF 'saronlaw08.DrumPlans'. -/
def drumPlansCard : Claim7 := { stood := { row := drumPlansRow, standIns := [], harness := (true, "6e9413093000b2ef8e9c498da0d8874e844100b16a3f555dc5d0ac28b9fddd8c"), looks := false }, kinds := [], alts := [], laidByText := true, laidKinds := [.funcs], laidTests := true, laidLooks := .later }
def DrumPlansCardSaid : Prop := Claim7.holds Tryd.pinned (.plain (OpenSpec.ofChange drumPlansSpec)) drumPlansCard

/-- THE TIED CARD OF 'saronlaw08.DrumBounds'. -/
def drumBoundsCard : Claim7 := { stood := { row := drumBoundsRow, standIns := [], harness := (true, "6e9413093000b2ef8e9c498da0d8874e844100b16a3f555dc5d0ac28b9fddd8c"), looks := false }, kinds := [], alts := [], laidByText := true, laidKinds := [.funcs], laidTests := true, laidLooks := .later }
def DrumBoundsCardSaid : Prop := Claim7.holds Tryd.pinned (.plain (OpenSpec.ofChange drumBoundsSpec)) drumBoundsCard

/-- THE TIED CARD OF 'saronlaw08.DrumKnows'. -/
def drumKnowsCard : Claim7 := { stood := { row := drumKnowsRow, standIns := [], harness := (true, "6e9413093000b2ef8e9c498da0d8874e844100b16a3f555dc5d0ac28b9fddd8c"), looks := false }, kinds := [], alts := [], laidByText := true, laidKinds := [.funcs], laidTests := true, laidLooks := .later }
def DrumKnowsCardSaid : Prop := Claim7.holds Tryd.pinned (.plain (OpenSpec.ofChange drumKnowsSpec)) drumKnowsCard

/-- THE TIED CARD OF 'saronlaw08.DrumGong'. -/
def drumGongCard : Claim7 := { stood := { row := drumGongRow, standIns := [], harness := (true, "6e9413093000b2ef8e9c498da0d8874e844100b16a3f555dc5d0ac28b9fddd8c"), looks := false }, kinds := [], alts := [], laidByText := true, laidKinds := [.funcs], laidTests := true, laidLooks := .later }
def DrumGongCardSaid : Prop := Claim7.holds Tryd.pinned (.plain (OpenSpec.ofChange drumGongSpec)) drumGongCard

/-- THE TIED CARD OF 'saronlaw08.DrumTrue'. -/
def drumTrueCard : Claim7 := { stood := { row := drumTrueRow, standIns := [], harness := (true, "6e9413093000b2ef8e9c498da0d8874e844100b16a3f555dc5d0ac28b9fddd8c"), looks := false }, kinds := [], alts := [], laidByText := true, laidKinds := [.funcs], laidTests := true, laidLooks := .later }
def DrumTrueCardSaid : Prop := Claim7.holds Tryd.pinned (.plain (OpenSpec.ofChange drumTrueSpec)) drumTrueCard

/-- THE TIED CARD OF 'saronlaw08.DrumEnds'. -/
def drumEndsCard : Claim7 := { stood := { row := drumEndsRow, standIns := [], harness := (true, "6e9413093000b2ef8e9c498da0d8874e844100b16a3f555dc5d0ac28b9fddd8c"), looks := false }, kinds := [], alts := [], laidByText := true, laidKinds := [.funcs], laidTests := true, laidLooks := .later }
def DrumEndsCardSaid : Prop := Claim7.holds Tryd.pinned (.plain (OpenSpec.ofChange drumEndsSpec)) drumEndsCard

/-- THE TIED CARD OF 'saronlaw08.DrumFewest'. -/
def drumFewestCard : Claim7 := { stood := { row := drumFewestRow, standIns := [], harness := (true, "6e9413093000b2ef8e9c498da0d8874e844100b16a3f555dc5d0ac28b9fddd8c"), looks := false }, kinds := [], alts := [], laidByText := true, laidKinds := [.funcs], laidTests := true, laidLooks := .later }
def DrumFewestCardSaid : Prop := Claim7.holds Tryd.pinned (.plain (OpenSpec.ofChange drumFewestSpec)) drumFewestCard

/-- THE TIED CARD OF 'saronlaw08.DrumBound'. -/
def drumBoundCard : Claim7 := { stood := { row := drumBoundRow, standIns := [], harness := (true, "6e9413093000b2ef8e9c498da0d8874e844100b16a3f555dc5d0ac28b9fddd8c"), looks := false }, kinds := [], alts := [], laidByText := true, laidKinds := [.funcs], laidTests := true, laidLooks := .later }
def DrumBoundCardSaid : Prop := Claim7.holds Tryd.pinned (.plain (OpenSpec.ofChange drumBoundSpec)) drumBoundCard

/-- THE TIED CARD OF 'saronlaw08.DrumEasier'. -/
def drumEasierCard : Claim7 := { stood := { row := drumEasierRow, standIns := [], harness := (true, "6e9413093000b2ef8e9c498da0d8874e844100b16a3f555dc5d0ac28b9fddd8c"), looks := false }, kinds := [], alts := [], laidByText := true, laidKinds := [.funcs], laidTests := true, laidLooks := .later }
def DrumEasierCardSaid : Prop := Claim7.holds Tryd.pinned (.plain (OpenSpec.ofChange drumEasierSpec)) drumEasierCard

/-- THE TIED CARD OF 'saronlaw08.DrumCued'. -/
def drumCuedCard : Claim7 := { stood := { row := drumCuedRow, standIns := [], harness := (true, "6e9413093000b2ef8e9c498da0d8874e844100b16a3f555dc5d0ac28b9fddd8c"), looks := false }, kinds := [], alts := [], laidByText := true, laidKinds := [.funcs], laidTests := true, laidLooks := .later }
def DrumCuedCardSaid : Prop := Claim7.holds Tryd.pinned (.plain (OpenSpec.ofChange drumCuedSpec)) drumCuedCard

/-- THE TIED CARD OF 'saronlaw08.DrumListens'. -/
def drumListensCard : Claim7 := { stood := { row := drumListensRow, standIns := [], harness := (true, "6e9413093000b2ef8e9c498da0d8874e844100b16a3f555dc5d0ac28b9fddd8c"), looks := false }, kinds := [], alts := [], laidByText := true, laidKinds := [.funcs], laidTests := true, laidLooks := .later }
def DrumListensCardSaid : Prop := Claim7.holds Tryd.pinned (.plain (OpenSpec.ofChange drumListensSpec)) drumListensCard

/-- THE TIED CARD OF 'saronlaw08.DrumKnown'. -/
def drumKnownCard : Claim7 := { stood := { row := drumKnownRow, standIns := [], harness := (true, "6e9413093000b2ef8e9c498da0d8874e844100b16a3f555dc5d0ac28b9fddd8c"), looks := false }, kinds := [], alts := [], laidByText := true, laidKinds := [.funcs], laidTests := true, laidLooks := .later }
def DrumKnownCardSaid : Prop := Claim7.holds Tryd.pinned (.plain (OpenSpec.ofChange drumKnownSpec)) drumKnownCard

/-- THE SECOND FORM's CARD OF 'saronlaw08.DrumPaths'. -/
def drumPathsUptoCard : Claim7 := { stood := { row := drumPathsUptoRow, standIns := [], harness := (true, "6e9413093000b2ef8e9c498da0d8874e844100b16a3f555dc5d0ac28b9fddd8c"), looks := false }, kinds := [], alts := [], laidByText := true, laidKinds := [.funcs], laidTests := true, laidLooks := .later }
def DrumPathsUptoCardSaid : Prop := Claim7.holds Tryd.pinned (.plain (OpenSpec.upto drumPathsSpec)) drumPathsUptoCard

/-- THE SECOND FORM's CARD OF 'saronlaw08.DrumPlans'. -/
def drumPlansUptoCard : Claim7 := { stood := { row := drumPlansUptoRow, standIns := [], harness := (true, "6e9413093000b2ef8e9c498da0d8874e844100b16a3f555dc5d0ac28b9fddd8c"), looks := false }, kinds := [], alts := [], laidByText := true, laidKinds := [.funcs], laidTests := true, laidLooks := .later }
def DrumPlansUptoCardSaid : Prop := Claim7.holds Tryd.pinned (.plain (OpenSpec.upto drumPlansSpec)) drumPlansUptoCard

/-- THE SECOND FORM's CARD OF 'saronlaw08.DrumBounds'. -/
def drumBoundsUptoCard : Claim7 := { stood := { row := drumBoundsUptoRow, standIns := [], harness := (true, "6e9413093000b2ef8e9c498da0d8874e844100b16a3f555dc5d0ac28b9fddd8c"), looks := false }, kinds := [], alts := [], laidByText := true, laidKinds := [.funcs], laidTests := true, laidLooks := .later }
def DrumBoundsUptoCardSaid : Prop := Claim7.holds Tryd.pinned (.plain (OpenSpec.upto drumBoundsSpec)) drumBoundsUptoCard

/-- THE SECOND FORM's CARD OF 'saronlaw08.DrumKnows'. -/
def drumKnowsUptoCard : Claim7 := { stood := { row := drumKnowsUptoRow, standIns := [], harness := (true, "6e9413093000b2ef8e9c498da0d8874e844100b16a3f555dc5d0ac28b9fddd8c"), looks := false }, kinds := [], alts := [], laidByText := true, laidKinds := [.funcs], laidTests := true, laidLooks := .later }
def DrumKnowsUptoCardSaid : Prop := Claim7.holds Tryd.pinned (.plain (OpenSpec.upto drumKnowsSpec)) drumKnowsUptoCard

/-- THE SECOND FORM's CARD OF 'saronlaw08.DrumGong'. -/
def drumGongUptoCard : Claim7 := { stood := { row := drumGongUptoRow, standIns := [], harness := (true, "6e9413093000b2ef8e9c498da0d8874e844100b16a3f555dc5d0ac28b9fddd8c"), looks := false }, kinds := [], alts := [], laidByText := true, laidKinds := [.funcs], laidTests := true, laidLooks := .later }
def DrumGongUptoCardSaid : Prop := Claim7.holds Tryd.pinned (.plain (OpenSpec.upto drumGongSpec)) drumGongUptoCard

/-- THE SECOND FORM's CARD OF 'saronlaw08.DrumTrue'. -/
def drumTrueUptoCard : Claim7 := { stood := { row := drumTrueUptoRow, standIns := [], harness := (true, "6e9413093000b2ef8e9c498da0d8874e844100b16a3f555dc5d0ac28b9fddd8c"), looks := false }, kinds := [], alts := [], laidByText := true, laidKinds := [.funcs], laidTests := true, laidLooks := .later }
def DrumTrueUptoCardSaid : Prop := Claim7.holds Tryd.pinned (.plain (OpenSpec.upto drumTrueSpec)) drumTrueUptoCard

/-- THE SECOND FORM's CARD OF 'saronlaw08.DrumEnds'. -/
def drumEndsUptoCard : Claim7 := { stood := { row := drumEndsUptoRow, standIns := [], harness := (true, "6e9413093000b2ef8e9c498da0d8874e844100b16a3f555dc5d0ac28b9fddd8c"), looks := false }, kinds := [], alts := [], laidByText := true, laidKinds := [.funcs], laidTests := true, laidLooks := .later }
def DrumEndsUptoCardSaid : Prop := Claim7.holds Tryd.pinned (.plain (OpenSpec.upto drumEndsSpec)) drumEndsUptoCard

/-- THE SECOND FORM's CARD OF 'saronlaw08.DrumFewest'. -/
def drumFewestUptoCard : Claim7 := { stood := { row := drumFewestUptoRow, standIns := [], harness := (true, "6e9413093000b2ef8e9c498da0d8874e844100b16a3f555dc5d0ac28b9fddd8c"), looks := false }, kinds := [], alts := [], laidByText := true, laidKinds := [.funcs], laidTests := true, laidLooks := .later }
def DrumFewestUptoCardSaid : Prop := Claim7.holds Tryd.pinned (.plain (OpenSpec.upto drumFewestSpec)) drumFewestUptoCard

/-- THE SECOND FORM's CARD OF 'saronlaw08.DrumBound'. -/
def drumBoundUptoCard : Claim7 := { stood := { row := drumBoundUptoRow, standIns := [], harness := (true, "6e9413093000b2ef8e9c498da0d8874e844100b16a3f555dc5d0ac28b9fddd8c"), looks := false }, kinds := [], alts := [], laidByText := true, laidKinds := [.funcs], laidTests := true, laidLooks := .later }
def DrumBoundUptoCardSaid : Prop := Claim7.holds Tryd.pinned (.plain (OpenSpec.upto drumBoundSpec)) drumBoundUptoCard

/-- THE SECOND FORM's CARD OF 'saronlaw08.DrumEasier'. -/
def drumEasierUptoCard : Claim7 := { stood := { row := drumEasierUptoRow, standIns := [], harness := (true, "6e9413093000b2ef8e9c498da0d8874e844100b16a3f555dc5d0ac28b9fddd8c"), looks := false }, kinds := [], alts := [], laidByText := true, laidKinds := [.funcs], laidTests := true, laidLooks := .later }
def DrumEasierUptoCardSaid : Prop := Claim7.holds Tryd.pinned (.plain (OpenSpec.upto drumEasierSpec)) drumEasierUptoCard

/-- THE SECOND FORM's CARD OF 'saronlaw08.DrumCued'. -/
def drumCuedUptoCard : Claim7 := { stood := { row := drumCuedUptoRow, standIns := [], harness := (true, "6e9413093000b2ef8e9c498da0d8874e844100b16a3f555dc5d0ac28b9fddd8c"), looks := false }, kinds := [], alts := [], laidByText := true, laidKinds := [.funcs], laidTests := true, laidLooks := .later }
def DrumCuedUptoCardSaid : Prop := Claim7.holds Tryd.pinned (.plain (OpenSpec.upto drumCuedSpec)) drumCuedUptoCard

/-- THE SECOND FORM's CARD OF 'saronlaw08.DrumListens'. -/
def drumListensUptoCard : Claim7 := { stood := { row := drumListensUptoRow, standIns := [], harness := (true, "6e9413093000b2ef8e9c498da0d8874e844100b16a3f555dc5d0ac28b9fddd8c"), looks := false }, kinds := [], alts := [], laidByText := true, laidKinds := [.funcs], laidTests := true, laidLooks := .later }
def DrumListensUptoCardSaid : Prop := Claim7.holds Tryd.pinned (.plain (OpenSpec.upto drumListensSpec)) drumListensUptoCard

/-- THE SECOND FORM's CARD OF 'saronlaw08.DrumKnown'. -/
def drumKnownUptoCard : Claim7 := { stood := { row := drumKnownUptoRow, standIns := [], harness := (true, "6e9413093000b2ef8e9c498da0d8874e844100b16a3f555dc5d0ac28b9fddd8c"), looks := false }, kinds := [], alts := [], laidByText := true, laidKinds := [.funcs], laidTests := true, laidLooks := .later }
def DrumKnownUptoCardSaid : Prop := Claim7.holds Tryd.pinned (.plain (OpenSpec.upto drumKnownSpec)) drumKnownUptoCard
end Rows
end Go.Proofs.YtljikigmfkfkiaaDoor
