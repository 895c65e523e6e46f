/-
  DERIVED. GIVEN WITH THE SEED: THE CARDS: each row of YtgfbfbfajnfbjaaDoorRows.lean that lists a variable, with what it lists TIED to the program's text (the seventh form; the later family's looks); each row that meets fmt, with fmt's text TOLD by the authors' own Lean function (tested against real Go, not proved from fmt's source: count such statements apart). THE CARD IS WHAT COUNTS. Prove the row's statement (the work); the ties are given (YtgfbfbfajnfbjaaDoorTie.lean); close each card by the builder's one call (the guide's Derived/Test/ToyasCard.lean, 'card_holds'). Laid BY PROGRAM, IN A SANDBOX (cutbox-door.mjs). By AI agents, Wed Nov 11 2026. No macro, syntax, notation, axiom, sorry.
-/
import Derived.Test.YtgfbfbfajnfbjaaDoorRows
import GoSem.ClaimSeven
namespace Go.Proofs.YtgfbfbfajnfbjaaDoor
namespace Rows

/-- THE TIED CARD OF 'saronlaw02.ForgeMelts'. -/
def forgeMeltsCard : Claim7 := { stood := { row := forgeMeltsRow, standIns := [], harness := (true, "3fad9c1288e5c493a09ed296f709b91b9a8ad6a056c96a33ad7fc7ce5de90701"), looks := false }, kinds := [], alts := [], laidByText := true, laidKinds := [.funcs], laidTests := true, laidLooks := .later }
def ForgeMeltsCardSaid : Prop := Claim7.holds Tryd.pinned (.plain (OpenSpec.ofChange forgeMeltsSpec)) forgeMeltsCard

/-- THE TIED CARD OF 'saronlaw02.ForgeCasts'. -/
def forgeCastsCard : Claim7 := { stood := { row := forgeCastsRow, standIns := [], harness := (true, "3fad9c1288e5c493a09ed296f709b91b9a8ad6a056c96a33ad7fc7ce5de90701"), looks := false }, kinds := [], alts := [], laidByText := true, laidKinds := [.funcs], laidTests := true, laidLooks := .later }
def ForgeCastsCardSaid : Prop := Claim7.holds Tryd.pinned (.plain (OpenSpec.ofChange forgeCastsSpec)) forgeCastsCard

/-- THE TIED CARD OF 'saronlaw02.ForgeStrengths'. -/
def forgeStrengthsCard : Claim7 := { stood := { row := forgeStrengthsRow, standIns := [], harness := (true, "3fad9c1288e5c493a09ed296f709b91b9a8ad6a056c96a33ad7fc7ce5de90701"), looks := false }, kinds := [], alts := [], laidByText := true, laidKinds := [.funcs], laidTests := true, laidLooks := .later }
def ForgeStrengthsCardSaid : Prop := Claim7.holds Tryd.pinned (.plain (OpenSpec.ofChange forgeStrengthsSpec)) forgeStrengthsCard

/-- THE TIED CARD OF 'saronlaw02.ForgeBlows'. -/
def forgeBlowsCard : Claim7 := { stood := { row := forgeBlowsRow, standIns := [], harness := (true, "3fad9c1288e5c493a09ed296f709b91b9a8ad6a056c96a33ad7fc7ce5de90701"), looks := false }, kinds := [], alts := [], laidByText := true, laidKinds := [.funcs], laidTests := true, laidLooks := .later }
def ForgeBlowsCardSaid : Prop := Claim7.holds Tryd.pinned (.plain (OpenSpec.ofChange forgeBlowsSpec)) forgeBlowsCard

/-- THE TIED CARD OF 'saronlaw02.ForgeTin'. -/
def forgeTinCard : Claim7 := { stood := { row := forgeTinRow, standIns := [], harness := (true, "3fad9c1288e5c493a09ed296f709b91b9a8ad6a056c96a33ad7fc7ce5de90701"), looks := false }, kinds := [], alts := [], laidByText := true, laidKinds := [.funcs], laidTests := true, laidLooks := .later }
def ForgeTinCardSaid : Prop := Claim7.holds Tryd.pinned (.plain (OpenSpec.ofChange forgeTinSpec)) forgeTinCard

/-- THE TIED CARD OF 'saronlaw02.ForgeFewest'. -/
def forgeFewestCard : Claim7 := { stood := { row := forgeFewestRow, standIns := [], harness := (true, "3fad9c1288e5c493a09ed296f709b91b9a8ad6a056c96a33ad7fc7ce5de90701"), looks := false }, kinds := [], alts := [], laidByText := true, laidKinds := [.funcs], laidTests := true, laidLooks := .later }
def ForgeFewestCardSaid : Prop := Claim7.holds Tryd.pinned (.plain (OpenSpec.ofChange forgeFewestSpec)) forgeFewestCard

/-- THE TIED CARD OF 'saronlaw02.ForgeKept'. -/
def forgeKeptCard : Claim7 := { stood := { row := forgeKeptRow, standIns := [], harness := (true, "3fad9c1288e5c493a09ed296f709b91b9a8ad6a056c96a33ad7fc7ce5de90701"), looks := false }, kinds := [], alts := [], laidByText := true, laidKinds := [.funcs], laidTests := true, laidLooks := .later }
def ForgeKeptCardSaid : Prop := Claim7.holds Tryd.pinned (.plain (OpenSpec.ofChange forgeKeptSpec)) forgeKeptCard

/-- THE TIED CARD OF 'saronlaw02.ForgeEasier'. -/
def forgeEasierCard : Claim7 := { stood := { row := forgeEasierRow, standIns := [], harness := (true, "3fad9c1288e5c493a09ed296f709b91b9a8ad6a056c96a33ad7fc7ce5de90701"), looks := false }, kinds := [], alts := [], laidByText := true, laidKinds := [.funcs], laidTests := true, laidLooks := .later }
def ForgeEasierCardSaid : Prop := Claim7.holds Tryd.pinned (.plain (OpenSpec.ofChange forgeEasierSpec)) forgeEasierCard

/-- THE TIED CARD OF 'saronlaw02.ForgeTrue'. -/
def forgeTrueCard : Claim7 := { stood := { row := forgeTrueRow, standIns := [], harness := (true, "3fad9c1288e5c493a09ed296f709b91b9a8ad6a056c96a33ad7fc7ce5de90701"), looks := false }, kinds := [], alts := [], laidByText := true, laidKinds := [.funcs], laidTests := true, laidLooks := .later }
def ForgeTrueCardSaid : Prop := Claim7.holds Tryd.pinned (.plain (OpenSpec.ofChange forgeTrueSpec)) forgeTrueCard

/-- THE TIED CARD OF 'saronlaw02.ForgeEnds'. -/
def forgeEndsCard : Claim7 := { stood := { row := forgeEndsRow, standIns := [], harness := (true, "3fad9c1288e5c493a09ed296f709b91b9a8ad6a056c96a33ad7fc7ce5de90701"), looks := false }, kinds := [], alts := [], laidByText := true, laidKinds := [.funcs], laidTests := true, laidLooks := .later }
def ForgeEndsCardSaid : Prop := Claim7.holds Tryd.pinned (.plain (OpenSpec.ofChange forgeEndsSpec)) forgeEndsCard

/-- THE TIED CARD OF 'saronlaw02.ForgeMore'. -/
def forgeMoreCard : Claim7 := { stood := { row := forgeMoreRow, standIns := [], harness := (true, "3fad9c1288e5c493a09ed296f709b91b9a8ad6a056c96a33ad7fc7ce5de90701"), looks := false }, kinds := [], alts := [], laidByText := true, laidKinds := [.funcs], laidTests := true, laidLooks := .later }
def ForgeMoreCardSaid : Prop := Claim7.holds Tryd.pinned (.plain (OpenSpec.ofChange forgeMoreSpec)) forgeMoreCard

/-- THE TIED CARD OF 'saronlaw02.ForgeReady'. -/
def forgeReadyCard : Claim7 := { stood := { row := forgeReadyRow, standIns := [], harness := (true, "3fad9c1288e5c493a09ed296f709b91b9a8ad6a056c96a33ad7fc7ce5de90701"), looks := false }, kinds := [], alts := [], laidByText := true, laidKinds := [.funcs], laidTests := true, laidLooks := .later }
def ForgeReadyCardSaid : Prop := Claim7.holds Tryd.pinned (.plain (OpenSpec.ofChange forgeReadySpec)) forgeReadyCard

/-- THE TIED CARD OF 'saronlaw02.ForgeLeft'. -/
def forgeLeftCard : Claim7 := { stood := { row := forgeLeftRow, standIns := [], harness := (true, "3fad9c1288e5c493a09ed296f709b91b9a8ad6a056c96a33ad7fc7ce5de90701"), looks := false }, kinds := [], alts := [], laidByText := true, laidKinds := [.funcs], laidTests := true, laidLooks := .later }
def ForgeLeftCardSaid : Prop := Claim7.holds Tryd.pinned (.plain (OpenSpec.ofChange forgeLeftSpec)) forgeLeftCard

/-- THE TIED CARD OF 'saronlaw02.ForgeHeats'. -/
def forgeHeatsCard : Claim7 := { stood := { row := forgeHeatsRow, standIns := [], harness := (true, "3fad9c1288e5c493a09ed296f709b91b9a8ad6a056c96a33ad7fc7ce5de90701"), looks := false }, kinds := [], alts := [], laidByText := true, laidKinds := [.funcs], laidTests := true, laidLooks := .later }
def ForgeHeatsCardSaid : Prop := Claim7.holds Tryd.pinned (.plain (OpenSpec.ofChange forgeHeatsSpec)) forgeHeatsCard

/-- THE TIED CARD OF 'saronlaw02.ForgeKnown'. -/
def forgeKnownCard : Claim7 := { stood := { row := forgeKnownRow, standIns := [], harness := (true, "3fad9c1288e5c493a09ed296f709b91b9a8ad6a056c96a33ad7fc7ce5de90701"), looks := false }, kinds := [], alts := [], laidByText := true, laidKinds := [.funcs], laidTests := true, laidLooks := .later }
def ForgeKnownCardSaid : Prop := Claim7.holds Tryd.pinned (.plain (OpenSpec.ofChange forgeKnownSpec)) forgeKnownCard

/-- THE SECOND FORM's CARD OF 'saronlaw02.ForgeMelts'. -/
def forgeMeltsUptoCard : Claim7 := { stood := { row := forgeMeltsUptoRow, standIns := [], harness := (true, "3fad9c1288e5c493a09ed296f709b91b9a8ad6a056c96a33ad7fc7ce5de90701"), looks := false }, kinds := [], alts := [], laidByText := true, laidKinds := [.funcs], laidTests := true, laidLooks := .later }
def ForgeMeltsUptoCardSaid : Prop := Claim7.holds Tryd.pinned (.plain (OpenSpec.upto forgeMeltsSpec)) forgeMeltsUptoCard

/-- THE SECOND FORM's CARD OF 'saronlaw02.ForgeCasts'. -/
def forgeCastsUptoCard : Claim7 := { stood := { row := forgeCastsUptoRow, standIns := [], harness := (true, "3fad9c1288e5c493a09ed296f709b91b9a8ad6a056c96a33ad7fc7ce5de90701"), looks := false }, kinds := [], alts := [], laidByText := true, laidKinds := [.funcs], laidTests := true, laidLooks := .later }
def ForgeCastsUptoCardSaid : Prop := Claim7.holds Tryd.pinned (.plain (OpenSpec.upto forgeCastsSpec)) forgeCastsUptoCard

/-- THE SECOND FORM's CARD OF 'saronlaw02.ForgeStrengths'. -/
def forgeStrengthsUptoCard : Claim7 := { stood := { row := forgeStrengthsUptoRow, standIns := [], harness := (true, "3fad9c1288e5c493a09ed296f709b91b9a8ad6a056c96a33ad7fc7ce5de90701"), looks := false }, kinds := [], alts := [], laidByText := true, laidKinds := [.funcs], laidTests := true, laidLooks := .later }
def ForgeStrengthsUptoCardSaid : Prop := Claim7.holds Tryd.pinned (.plain (OpenSpec.upto forgeStrengthsSpec)) forgeStrengthsUptoCard

/-- THE SECOND FORM's CARD OF 'saronlaw02.ForgeBlows'. -/
def forgeBlowsUptoCard : Claim7 := { stood := { row := forgeBlowsUptoRow, standIns := [], harness := (true, "3fad9c1288e5c493a09ed296f709b91b9a8ad6a056c96a33ad7fc7ce5de90701"), looks := false }, kinds := [], alts := [], laidByText := true, laidKinds := [.funcs], laidTests := true, laidLooks := .later }
def ForgeBlowsUptoCardSaid : Prop := Claim7.holds Tryd.pinned (.plain (OpenSpec.upto forgeBlowsSpec)) forgeBlowsUptoCard

/-- THE SECOND FORM's CARD OF 'saronlaw02.ForgeTin'. -/
def forgeTinUptoCard : Claim7 := { stood := { row := forgeTinUptoRow, standIns := [], harness := (true, "3fad9c1288e5c493a09ed296f709b91b9a8ad6a056c96a33ad7fc7ce5de90701"), looks := false }, kinds := [], alts := [], laidByText := true, laidKinds := [.funcs], laidTests := true, laidLooks := .later }
def ForgeTinUptoCardSaid : Prop := Claim7.holds Tryd.pinned (.plain (OpenSpec.upto forgeTinSpec)) forgeTinUptoCard

/-- THE SECOND FORM's CARD OF 'saronlaw02.ForgeFewest'. -/
def forgeFewestUptoCard : Claim7 := { stood := { row := forgeFewestUptoRow, standIns := [], harness := (true, "3fad9c1288e5c493a09ed296f709b91b9a8ad6a056c96a33ad7fc7ce5de90701"), looks := false }, kinds := [], alts := [], laidByText := true, laidKinds := [.funcs], laidTests := true, laidLooks := .later }
def ForgeFewestUptoCardSaid : Prop := Claim7.holds Tryd.pinned (.plain (OpenSpec.upto forgeFewestSpec)) forgeFewestUptoCard

/-- THE SECOND FORM's CARD OF 'saronlaw02.ForgeKept'. -/
def forgeKeptUptoCard : Claim7 := { stood := { row := forgeKeptUptoRow, standIns := [], harness := (true, "3fad9c1288e5c493a09ed296f709b91b9a8ad6a056c96a33ad7fc7ce5de90701"), looks := false }, kinds := [], alts := [], laidByText := true, laidKinds := [.funcs], laidTests := true, laidLooks := .later }
def ForgeKeptUptoCardSaid : Prop := Claim7.holds Tryd.pinned (.plain (OpenSpec.upto forgeKeptSpec)) forgeKeptUptoCard

/-- THE SECOND FORM's CARD OF 'saronlaw02.ForgeEasier'. -/
def forgeEasierUptoCard : Claim7 := { stood := { row := forgeEasierUptoRow, standIns := [], harness := (true, "3fad9c1288e5c493a09ed296f709b91b9a8ad6a056c96a33ad7fc7ce5de90701"), looks := false }, kinds := [], alts := [], laidByText := true, laidKinds := [.funcs], laidTests := true, laidLooks := .later }
def ForgeEasierUptoCardSaid : Prop := Claim7.holds Tryd.pinned (.plain (OpenSpec.upto forgeEasierSpec)) forgeEasierUptoCard

/-- THE SECOND FORM's CARD OF 'saronlaw02.ForgeTrue'. -/
def forgeTrueUptoCard : Claim7 := { stood := { row := forgeTrueUptoRow, standIns := [], harness := (true, "3fad9c1288e5c493a09ed296f709b91b9a8ad6a056c96a33ad7fc7ce5de90701"), looks := false }, kinds := [], alts := [], laidByText := true, laidKinds := [.funcs], laidTests := true, laidLooks := .later }
def ForgeTrueUptoCardSaid : Prop := Claim7.holds Tryd.pinned (.plain (OpenSpec.upto forgeTrueSpec)) forgeTrueUptoCard

/-- THE SECOND FORM's CARD OF 'saronlaw02.ForgeEnds'. -/
def forgeEndsUptoCard : Claim7 := { stood := { row := forgeEndsUptoRow, standIns := [], harness := (true, "3fad9c1288e5c493a09ed296f709b91b9a8ad6a056c96a33ad7fc7ce5de90701"), looks := false }, kinds := [], alts := [], laidByText := true, laidKinds := [.funcs], laidTests := true, laidLooks := .later }
def ForgeEndsUptoCardSaid : Prop := Claim7.holds Tryd.pinned (.plain (OpenSpec.upto forgeEndsSpec)) forgeEndsUptoCard

/-- THE SECOND FORM's CARD OF 'saronlaw02.ForgeMore'. -/
def forgeMoreUptoCard : Claim7 := { stood := { row := forgeMoreUptoRow, standIns := [], harness := (true, "3fad9c1288e5c493a09ed296f709b91b9a8ad6a056c96a33ad7fc7ce5de90701"), looks := false }, kinds := [], alts := [], laidByText := true, laidKinds := [.funcs], laidTests := true, laidLooks := .later }
def ForgeMoreUptoCardSaid : Prop := Claim7.holds Tryd.pinned (.plain (OpenSpec.upto forgeMoreSpec)) forgeMoreUptoCard

/-- THE SECOND FORM's CARD OF 'saronlaw02.ForgeReady'. -/
def forgeReadyUptoCard : Claim7 := { stood := { row := forgeReadyUptoRow, standIns := [], harness := (true, "3fad9c1288e5c493a09ed296f709b91b9a8ad6a056c96a33ad7fc7ce5de90701"), looks := false }, kinds := [], alts := [], laidByText := true, laidKinds := [.funcs], laidTests := true, laidLooks := .later }
def ForgeReadyUptoCardSaid : Prop := Claim7.holds Tryd.pinned (.plain (OpenSpec.upto forgeReadySpec)) forgeReadyUptoCard

/-- THE SECOND FORM's CARD OF 'saronlaw02.ForgeLeft'. -/
def forgeLeftUptoCard : Claim7 := { stood := { row := forgeLeftUptoRow, standIns := [], harness := (true, "3fad9c1288e5c493a09ed296f709b91b9a8ad6a056c96a33ad7fc7ce5de90701"), looks := false }, kinds := [], alts := [], laidByText := true, laidKinds := [.funcs], laidTests := true, laidLooks := .later }
def ForgeLeftUptoCardSaid : Prop := Claim7.holds Tryd.pinned (.plain (OpenSpec.upto forgeLeftSpec)) forgeLeftUptoCard

/-- THE SECOND FORM's CARD OF 'saronlaw02.ForgeHeats'. -/
def forgeHeatsUptoCard : Claim7 := { stood := { row := forgeHeatsUptoRow, standIns := [], harness := (true, "3fad9c1288e5c493a09ed296f709b91b9a8ad6a056c96a33ad7fc7ce5de90701"), looks := false }, kinds := [], alts := [], laidByText := true, laidKinds := [.funcs], laidTests := true, laidLooks := .later }
def ForgeHeatsUptoCardSaid : Prop := Claim7.holds Tryd.pinned (.plain (OpenSpec.upto forgeHeatsSpec)) forgeHeatsUptoCard

/-- THE SECOND FORM's CARD OF 'saronlaw02.ForgeKnown'. -/
def forgeKnownUptoCard : Claim7 := { stood := { row := forgeKnownUptoRow, standIns := [], harness := (true, "3fad9c1288e5c493a09ed296f709b91b9a8ad6a056c96a33ad7fc7ce5de90701"), looks := false }, kinds := [], alts := [], laidByText := true, laidKinds := [.funcs], laidTests := true, laidLooks := .later }
def ForgeKnownUptoCardSaid : Prop := Claim7.holds Tryd.pinned (.plain (OpenSpec.upto forgeKnownSpec)) forgeKnownUptoCard
end Rows
end Go.Proofs.YtgfbfbfajnfbjaaDoor
