/-
  NARROWER THAN 'FOR EVERY INPUT', by the rows' own cells (each row's printed sentence says how): ForgeMelts: laid · ForgeCasts: laid · ForgeStrengths: laid · ForgeBlows: laid · ForgeTin: laid · ForgeFewest: laid · ForgeKept: laid · ForgeEasier: laid · ForgeTrue: laid · ForgeEnds: laid · ForgeMore: laid · ForgeReady: laid · ForgeLeft: laid · ForgeHeats: laid · ForgeKnown: laid.
  DERIVED. THE GIVEN ROWS OF THIS SEAT. 15 by the template 'for every input the law returns true; each argument reads behind the call as it read before'; 0 by the template 'total and deterministic' (their statements: YtgfbfbfajnfbjaaDoorTotals.lean).
  GIVEN WITH THE SEED: the statements are not yours to turn. If you find one false, say at which input.
  Laid BY PROGRAM, IN A SANDBOX (cutbox-rows.mjs): the forced cells as the released guide's own fill.sh prints them over the translation 5ce19bf846defaa0… (all of the seat's roots in one cut). By AI agents, Wed Nov 11 2026. No macro, syntax, notation, axiom, sorry.
-/
import Derived.Test.YtgfbfbfajnfbjaaDoorChecked
import GoSem.Claim
import GoSem.ClaimJoined
import GoSem.ClaimMapViews
import Derived.JoinedTies
import Derived.KernelRfl
namespace Go.Proofs.YtgfbfbfajnfbjaaDoor
/- THE CELL 'sum', in the pinned program and in every row, IS THE sha256 OF THE DUMP (.gsa) THAT YtgfbfbfajnfbjaaDoorProg.lean LOADS. Nothing in Lean hashes anything: it is a label: what it is worth is what the hold of that sum in a sandbox is worth. -/
noncomputable def Tryd.pinned : Pinned := { name := "ytgfbfbfajnfbjaadoor", sum := "5ce19bf846defaa01e5663a10298d1b547d37e2cd070cc8d2331ef6f26773e04", checked := Tryd.checked }
namespace Rows
def none {H : Type} : Left H := { results := [], args := [] }

/- WHAT THE LISTED PACKAGE-LEVEL VARIABLES READ AS WHEN THE CALL BEGINS. Each datum BY PROGRAM (the guide's laid-datum.mjs) off the statement by which the dump's own 'gosem.cut.vars' lays the variable. In a bare row this is a premise. The card (YtgfbfbfajnfbjaaDoorCards.lean) ties it to the program's text. -/
def laid_saron_forge_ends {H : Type} : DataW H := .iface "func table" (.agg [.iface "func" (.lit (.string [40, 115, 97, 114, 111, 110, 47, 102, 111, 114, 103, 101, 46, 98, 111, 111, 107, 41, 46, 108, 111, 119])), .iface "func" (.lit (.string [40, 115, 97, 114, 111, 110, 47, 102, 111, 114, 103, 101, 46, 98, 111, 111, 107, 41, 46, 104, 105, 103, 104]))])

/-- 'saronlaw02.ForgeMelts': WHATEVER THE INPUT: true; the input reads as it did. -/
def forgeMeltsSpec : ChangeSpec := { name := "forgeMelts", fn := fun _ => fun
  | [d1, d2, d3] => { results := [.lit (.bool true)], args := [d1, d2, d3] }
  | _ => none }
def forgeMeltsRow : OpenClaim := { program := "ytgfbfbfajnfbjaadoor", sum := "5ce19bf846defaa01e5663a10298d1b547d37e2cd070cc8d2331ef6f26773e04", func := "saron/saronlaw02.ForgeMelts", spec := "forgeMelts", unfollowed := true, recurses := true, named := ["saron/forge.ends"], plainKeys := false, apart := false, laid := [("saron/forge.ends", laid_saron_forge_ends)] }
def ForgeMeltsSaid : Prop := forgeMeltsRow.holds Tryd.pinned (OpenSpec.ofChange forgeMeltsSpec)

/-- ITS FALSE NEIGHBOUR: 'it returns false'. Refute it at one input. -/
def forgeMeltsWrong : ChangeSpec := { name := "forgeMelts", fn := fun _ => fun
  | [d1, d2, d3] => { results := [.lit (.bool false)], args := [d1, d2, d3] }
  | _ => none }
def ForgeMeltsWrongFalsely : Prop := forgeMeltsRow.holds Tryd.pinned (OpenSpec.ofChange forgeMeltsWrong)

/-- 'saronlaw02.ForgeCasts': WHATEVER THE INPUT: true; the input reads as it did. -/
def forgeCastsSpec : ChangeSpec := { name := "forgeCasts", fn := fun _ => fun
  | [d1, d2] => { results := [.lit (.bool true)], args := [d1, d2] }
  | _ => none }
def forgeCastsRow : OpenClaim := { program := "ytgfbfbfajnfbjaadoor", sum := "5ce19bf846defaa01e5663a10298d1b547d37e2cd070cc8d2331ef6f26773e04", func := "saron/saronlaw02.ForgeCasts", spec := "forgeCasts", unfollowed := true, recurses := true, named := ["saron/forge.ends"], plainKeys := false, apart := false, laid := [("saron/forge.ends", laid_saron_forge_ends)] }
def ForgeCastsSaid : Prop := forgeCastsRow.holds Tryd.pinned (OpenSpec.ofChange forgeCastsSpec)

/-- ITS FALSE NEIGHBOUR: 'it returns false'. Refute it at one input. -/
def forgeCastsWrong : ChangeSpec := { name := "forgeCasts", fn := fun _ => fun
  | [d1, d2] => { results := [.lit (.bool false)], args := [d1, d2] }
  | _ => none }
def ForgeCastsWrongFalsely : Prop := forgeCastsRow.holds Tryd.pinned (OpenSpec.ofChange forgeCastsWrong)

/-- 'saronlaw02.ForgeStrengths': WHATEVER THE INPUT: true; the input reads as it did. -/
def forgeStrengthsSpec : ChangeSpec := { name := "forgeStrengths", fn := fun _ => fun
  | [d1, d2] => { results := [.lit (.bool true)], args := [d1, d2] }
  | _ => none }
def forgeStrengthsRow : OpenClaim := { program := "ytgfbfbfajnfbjaadoor", sum := "5ce19bf846defaa01e5663a10298d1b547d37e2cd070cc8d2331ef6f26773e04", func := "saron/saronlaw02.ForgeStrengths", spec := "forgeStrengths", unfollowed := true, recurses := true, named := ["saron/forge.ends"], plainKeys := false, apart := false, laid := [("saron/forge.ends", laid_saron_forge_ends)] }
def ForgeStrengthsSaid : Prop := forgeStrengthsRow.holds Tryd.pinned (OpenSpec.ofChange forgeStrengthsSpec)

/-- ITS FALSE NEIGHBOUR: 'it returns false'. Refute it at one input. -/
def forgeStrengthsWrong : ChangeSpec := { name := "forgeStrengths", fn := fun _ => fun
  | [d1, d2] => { results := [.lit (.bool false)], args := [d1, d2] }
  | _ => none }
def ForgeStrengthsWrongFalsely : Prop := forgeStrengthsRow.holds Tryd.pinned (OpenSpec.ofChange forgeStrengthsWrong)

/-- 'saronlaw02.ForgeBlows': WHATEVER THE INPUT: true; the input reads as it did. -/
def forgeBlowsSpec : ChangeSpec := { name := "forgeBlows", fn := fun _ => fun
  | [d1, d2] => { results := [.lit (.bool true)], args := [d1, d2] }
  | _ => none }
def forgeBlowsRow : OpenClaim := { program := "ytgfbfbfajnfbjaadoor", sum := "5ce19bf846defaa01e5663a10298d1b547d37e2cd070cc8d2331ef6f26773e04", func := "saron/saronlaw02.ForgeBlows", spec := "forgeBlows", unfollowed := true, recurses := true, named := ["saron/forge.ends"], plainKeys := false, apart := false, laid := [("saron/forge.ends", laid_saron_forge_ends)] }
def ForgeBlowsSaid : Prop := forgeBlowsRow.holds Tryd.pinned (OpenSpec.ofChange forgeBlowsSpec)

/-- ITS FALSE NEIGHBOUR: 'it returns false'. Refute it at one input. -/
def forgeBlowsWrong : ChangeSpec := { name := "forgeBlows", fn := fun _ => fun
  | [d1, d2] => { results := [.lit (.bool false)], args := [d1, d2] }
  | _ => none }
def ForgeBlowsWrongFalsely : Prop := forgeBlowsRow.holds Tryd.pinned (OpenSpec.ofChange forgeBlowsWrong)

/-- 'saronlaw02.ForgeTin': WHATEVER THE INPUT: true; the input reads as it did. -/
def forgeTinSpec : ChangeSpec := { name := "forgeTin", fn := fun _ => fun
  | [d1, d2, d3] => { results := [.lit (.bool true)], args := [d1, d2, d3] }
  | _ => none }
def forgeTinRow : OpenClaim := { program := "ytgfbfbfajnfbjaadoor", sum := "5ce19bf846defaa01e5663a10298d1b547d37e2cd070cc8d2331ef6f26773e04", func := "saron/saronlaw02.ForgeTin", spec := "forgeTin", unfollowed := true, recurses := true, named := ["saron/forge.ends"], plainKeys := false, apart := false, laid := [("saron/forge.ends", laid_saron_forge_ends)] }
def ForgeTinSaid : Prop := forgeTinRow.holds Tryd.pinned (OpenSpec.ofChange forgeTinSpec)

/-- ITS FALSE NEIGHBOUR: 'it returns false'. Refute it at one input. -/
def forgeTinWrong : ChangeSpec := { name := "forgeTin", fn := fun _ => fun
  | [d1, d2, d3] => { results := [.lit (.bool false)], args := [d1, d2, d3] }
  | _ => none }
def ForgeTinWrongFalsely : Prop := forgeTinRow.holds Tryd.pinned (OpenSpec.ofChange forgeTinWrong)

/-- 'saronlaw02.ForgeFewest': WHATEVER THE INPUT: true; the input reads as it did. -/
def forgeFewestSpec : ChangeSpec := { name := "forgeFewest", fn := fun _ => fun
  | [d1, d2] => { results := [.lit (.bool true)], args := [d1, d2] }
  | _ => none }
def forgeFewestRow : OpenClaim := { program := "ytgfbfbfajnfbjaadoor", sum := "5ce19bf846defaa01e5663a10298d1b547d37e2cd070cc8d2331ef6f26773e04", func := "saron/saronlaw02.ForgeFewest", spec := "forgeFewest", unfollowed := true, recurses := true, named := ["saron/forge.ends"], plainKeys := false, apart := false, laid := [("saron/forge.ends", laid_saron_forge_ends)] }
def ForgeFewestSaid : Prop := forgeFewestRow.holds Tryd.pinned (OpenSpec.ofChange forgeFewestSpec)

/-- ITS FALSE NEIGHBOUR: 'it returns false'. Refute it at one input. -/
def forgeFewestWrong : ChangeSpec := { name := "forgeFewest", fn := fun _ => fun
  | [d1, d2] => { results := [.lit (.bool false)], args := [d1, d2] }
  | _ => none }
def ForgeFewestWrongFalsely : Prop := forgeFewestRow.holds Tryd.pinned (OpenSpec.ofChange forgeFewestWrong)

/-- 'saronlaw02.ForgeKept': WHATEVER THE INPUT: true; the input reads as it did. -/
def forgeKeptSpec : ChangeSpec := { name := "forgeKept", fn := fun _ => fun
  | [d1, d2, d3] => { results := [.lit (.bool true)], args := [d1, d2, d3] }
  | _ => none }
def forgeKeptRow : OpenClaim := { program := "ytgfbfbfajnfbjaadoor", sum := "5ce19bf846defaa01e5663a10298d1b547d37e2cd070cc8d2331ef6f26773e04", func := "saron/saronlaw02.ForgeKept", spec := "forgeKept", unfollowed := true, recurses := true, named := ["saron/forge.ends"], plainKeys := false, apart := false, laid := [("saron/forge.ends", laid_saron_forge_ends)] }
def ForgeKeptSaid : Prop := forgeKeptRow.holds Tryd.pinned (OpenSpec.ofChange forgeKeptSpec)

/-- ITS FALSE NEIGHBOUR: 'it returns false'. Refute it at one input. -/
def forgeKeptWrong : ChangeSpec := { name := "forgeKept", fn := fun _ => fun
  | [d1, d2, d3] => { results := [.lit (.bool false)], args := [d1, d2, d3] }
  | _ => none }
def ForgeKeptWrongFalsely : Prop := forgeKeptRow.holds Tryd.pinned (OpenSpec.ofChange forgeKeptWrong)

/-- 'saronlaw02.ForgeEasier': WHATEVER THE INPUT: true; the input reads as it did. -/
def forgeEasierSpec : ChangeSpec := { name := "forgeEasier", fn := fun _ => fun
  | [d1, d2, d3] => { results := [.lit (.bool true)], args := [d1, d2, d3] }
  | _ => none }
def forgeEasierRow : OpenClaim := { program := "ytgfbfbfajnfbjaadoor", sum := "5ce19bf846defaa01e5663a10298d1b547d37e2cd070cc8d2331ef6f26773e04", func := "saron/saronlaw02.ForgeEasier", spec := "forgeEasier", unfollowed := true, recurses := true, named := ["saron/forge.ends"], plainKeys := false, apart := false, laid := [("saron/forge.ends", laid_saron_forge_ends)] }
def ForgeEasierSaid : Prop := forgeEasierRow.holds Tryd.pinned (OpenSpec.ofChange forgeEasierSpec)

/-- ITS FALSE NEIGHBOUR: 'it returns false'. Refute it at one input. -/
def forgeEasierWrong : ChangeSpec := { name := "forgeEasier", fn := fun _ => fun
  | [d1, d2, d3] => { results := [.lit (.bool false)], args := [d1, d2, d3] }
  | _ => none }
def ForgeEasierWrongFalsely : Prop := forgeEasierRow.holds Tryd.pinned (OpenSpec.ofChange forgeEasierWrong)

/-- 'saronlaw02.ForgeTrue': WHATEVER THE INPUT: true; the input reads as it did. -/
def forgeTrueSpec : ChangeSpec := { name := "forgeTrue", fn := fun _ => fun
  | [d1, d2, d3] => { results := [.lit (.bool true)], args := [d1, d2, d3] }
  | _ => none }
def forgeTrueRow : OpenClaim := { program := "ytgfbfbfajnfbjaadoor", sum := "5ce19bf846defaa01e5663a10298d1b547d37e2cd070cc8d2331ef6f26773e04", func := "saron/saronlaw02.ForgeTrue", spec := "forgeTrue", unfollowed := true, recurses := true, named := ["saron/forge.ends"], plainKeys := false, apart := false, laid := [("saron/forge.ends", laid_saron_forge_ends)] }
def ForgeTrueSaid : Prop := forgeTrueRow.holds Tryd.pinned (OpenSpec.ofChange forgeTrueSpec)

/-- ITS FALSE NEIGHBOUR: 'it returns false'. Refute it at one input. -/
def forgeTrueWrong : ChangeSpec := { name := "forgeTrue", fn := fun _ => fun
  | [d1, d2, d3] => { results := [.lit (.bool false)], args := [d1, d2, d3] }
  | _ => none }
def ForgeTrueWrongFalsely : Prop := forgeTrueRow.holds Tryd.pinned (OpenSpec.ofChange forgeTrueWrong)

/-- 'saronlaw02.ForgeEnds': WHATEVER THE INPUT: true; the input reads as it did. -/
def forgeEndsSpec : ChangeSpec := { name := "forgeEnds", fn := fun _ => fun
  | [d1, d2] => { results := [.lit (.bool true)], args := [d1, d2] }
  | _ => none }
def forgeEndsRow : OpenClaim := { program := "ytgfbfbfajnfbjaadoor", sum := "5ce19bf846defaa01e5663a10298d1b547d37e2cd070cc8d2331ef6f26773e04", func := "saron/saronlaw02.ForgeEnds", spec := "forgeEnds", unfollowed := true, recurses := true, named := ["saron/forge.ends"], plainKeys := false, apart := false, laid := [("saron/forge.ends", laid_saron_forge_ends)] }
def ForgeEndsSaid : Prop := forgeEndsRow.holds Tryd.pinned (OpenSpec.ofChange forgeEndsSpec)

/-- ITS FALSE NEIGHBOUR: 'it returns false'. Refute it at one input. -/
def forgeEndsWrong : ChangeSpec := { name := "forgeEnds", fn := fun _ => fun
  | [d1, d2] => { results := [.lit (.bool false)], args := [d1, d2] }
  | _ => none }
def ForgeEndsWrongFalsely : Prop := forgeEndsRow.holds Tryd.pinned (OpenSpec.ofChange forgeEndsWrong)

/-- 'saronlaw02.ForgeMore': WHATEVER THE INPUT: true; the input reads as it did. -/
def forgeMoreSpec : ChangeSpec := { name := "forgeMore", fn := fun _ => fun
  | [d1, d2, d3] => { results := [.lit (.bool true)], args := [d1, d2, d3] }
  | _ => none }
def forgeMoreRow : OpenClaim := { program := "ytgfbfbfajnfbjaadoor", sum := "5ce19bf846defaa01e5663a10298d1b547d37e2cd070cc8d2331ef6f26773e04", func := "saron/saronlaw02.ForgeMore", spec := "forgeMore", unfollowed := true, recurses := true, named := ["saron/forge.ends"], plainKeys := false, apart := false, laid := [("saron/forge.ends", laid_saron_forge_ends)] }
def ForgeMoreSaid : Prop := forgeMoreRow.holds Tryd.pinned (OpenSpec.ofChange forgeMoreSpec)

/-- ITS FALSE NEIGHBOUR: 'it returns false'. Refute it at one input. -/
def forgeMoreWrong : ChangeSpec := { name := "forgeMore", fn := fun _ => fun
  | [d1, d2, d3] => { results := [.lit (.bool false)], args := [d1, d2, d3] }
  | _ => none }
def ForgeMoreWrongFalsely : Prop := forgeMoreRow.holds Tryd.pinned (OpenSpec.ofChange forgeMoreWrong)

/-- 'saronlaw02.ForgeReady': WHATEVER THE INPUT: true; the input reads as it did. -/
def forgeReadySpec : ChangeSpec := { name := "forgeReady", fn := fun _ => fun
  | [d1, d2] => { results := [.lit (.bool true)], args := [d1, d2] }
  | _ => none }
def forgeReadyRow : OpenClaim := { program := "ytgfbfbfajnfbjaadoor", sum := "5ce19bf846defaa01e5663a10298d1b547d37e2cd070cc8d2331ef6f26773e04", func := "saron/saronlaw02.ForgeReady", spec := "forgeReady", unfollowed := true, recurses := true, named := ["saron/forge.ends"], plainKeys := false, apart := false, laid := [("saron/forge.ends", laid_saron_forge_ends)] }
def ForgeReadySaid : Prop := forgeReadyRow.holds Tryd.pinned (OpenSpec.ofChange forgeReadySpec)

/-- ITS FALSE NEIGHBOUR: 'it returns false'. Refute it at one input. -/
def forgeReadyWrong : ChangeSpec := { name := "forgeReady", fn := fun _ => fun
  | [d1, d2] => { results := [.lit (.bool false)], args := [d1, d2] }
  | _ => none }
def ForgeReadyWrongFalsely : Prop := forgeReadyRow.holds Tryd.pinned (OpenSpec.ofChange forgeReadyWrong)

/-- 'saronlaw02.ForgeLeft': WHATEVER THE INPUT: true; the input reads as it did. -/
def forgeLeftSpec : ChangeSpec := { name := "forgeLeft", fn := fun _ => fun
  | [d1, d2] => { results := [.lit (.bool true)], args := [d1, d2] }
  | _ => none }
def forgeLeftRow : OpenClaim := { program := "ytgfbfbfajnfbjaadoor", sum := "5ce19bf846defaa01e5663a10298d1b547d37e2cd070cc8d2331ef6f26773e04", func := "saron/saronlaw02.ForgeLeft", spec := "forgeLeft", unfollowed := true, recurses := true, named := ["saron/forge.ends"], plainKeys := false, apart := false, laid := [("saron/forge.ends", laid_saron_forge_ends)] }
def ForgeLeftSaid : Prop := forgeLeftRow.holds Tryd.pinned (OpenSpec.ofChange forgeLeftSpec)

/-- ITS FALSE NEIGHBOUR: 'it returns false'. Refute it at one input. -/
def forgeLeftWrong : ChangeSpec := { name := "forgeLeft", fn := fun _ => fun
  | [d1, d2] => { results := [.lit (.bool false)], args := [d1, d2] }
  | _ => none }
def ForgeLeftWrongFalsely : Prop := forgeLeftRow.holds Tryd.pinned (OpenSpec.ofChange forgeLeftWrong)

/-- 'saronlaw02.ForgeHeats': WHATEVER THE INPUT: true; the input reads as it did. -/
def forgeHeatsSpec : ChangeSpec := { name := "forgeHeats", fn := fun _ => fun
  | [d1, d2] => { results := [.lit (.bool true)], args := [d1, d2] }
  | _ => none }
def forgeHeatsRow : OpenClaim := { program := "ytgfbfbfajnfbjaadoor", sum := "5ce19bf846defaa01e5663a10298d1b547d37e2cd070cc8d2331ef6f26773e04", func := "saron/saronlaw02.ForgeHeats", spec := "forgeHeats", unfollowed := true, recurses := true, named := ["saron/forge.ends"], plainKeys := false, apart := false, laid := [("saron/forge.ends", laid_saron_forge_ends)] }
def ForgeHeatsSaid : Prop := forgeHeatsRow.holds Tryd.pinned (OpenSpec.ofChange forgeHeatsSpec)

/-- ITS FALSE NEIGHBOUR: 'it returns false'. Refute it at one input. -/
def forgeHeatsWrong : ChangeSpec := { name := "forgeHeats", fn := fun _ => fun
  | [d1, d2] => { results := [.lit (.bool false)], args := [d1, d2] }
  | _ => none }
def ForgeHeatsWrongFalsely : Prop := forgeHeatsRow.holds Tryd.pinned (OpenSpec.ofChange forgeHeatsWrong)

/-- 'saronlaw02.ForgeKnown': WHATEVER THE INPUT: true; the input reads as it did. -/
def forgeKnownSpec : ChangeSpec := { name := "forgeKnown", fn := fun _ => fun
  | [] => { results := [.lit (.bool true)], args := [] }
  | _ => none }
def forgeKnownRow : OpenClaim := { program := "ytgfbfbfajnfbjaadoor", sum := "5ce19bf846defaa01e5663a10298d1b547d37e2cd070cc8d2331ef6f26773e04", func := "saron/saronlaw02.ForgeKnown", spec := "forgeKnown", unfollowed := true, recurses := true, named := ["saron/forge.ends"], plainKeys := false, apart := false, laid := [("saron/forge.ends", laid_saron_forge_ends)] }
def ForgeKnownSaid : Prop := forgeKnownRow.holds Tryd.pinned (OpenSpec.ofChange forgeKnownSpec)

/-- ITS FALSE NEIGHBOUR: 'it returns false'. Refute it at one input. -/
def forgeKnownWrong : ChangeSpec := { name := "forgeKnown", fn := fun _ => fun
  | [] => { results := [.lit (.bool false)], args := [] }
  | _ => none }
def ForgeKnownWrongFalsely : Prop := forgeKnownRow.holds Tryd.pinned (OpenSpec.ofChange forgeKnownWrong)

/- THE SECOND FORM. 'bulk': how many values and letters a reading holds, each counted each time it is reached (what is shared counts as often as it is met; a slice's spare places count too). A statement '..UptoSaid' is the law's where the arguments, and the package variables that the reading takes, are together of bulk at most 1048576: NARROWER than '..Said'. Prove '..Said' where nothing that the law and all that it calls make is longer than what came in: it says more and counts as full. Else prove '..UptoSaid'. A law counts once. -/
mutual
def uptoBulk {H : Type} : DataW H → Nat
  | .lit (.string bytes) => bytes.length + 1
  | .lit _ => 1
  | .nil => 1
  | .ptr d => uptoBulk d + 1
  | .slice elems spare => uptoBulkAll elems + uptoBulkAll spare + 1
  | .agg parts => uptoBulkAll parts + 1
  | .iface _ d => uptoBulk d + 1
  | .map entries => uptoBulkEntries entries + 1
  | .held _ => 1
def uptoBulkAll {H : Type} : List (DataW H) → Nat
  | [] => 0
  | d :: r => uptoBulk d + uptoBulkAll r
def uptoBulkEntries {H : Type} : List (Lit × DataW H) → Nat
  | [] => 0
  | x :: r => uptoBulkEntry x + uptoBulkEntries r
def uptoBulkEntry {H : Type} : Lit × DataW H → Nat
  | (.string bytes, d) => bytes.length + uptoBulk d + 1
  | (_, d) => uptoBulk d + 1
 end
def uptoSmall : (H : Type) → List (DataW H) → Bool := fun _ ds => decide (uptoBulkAll ds ≤ 1048576)
def OpenSpec.upto (s : _root_.Go.ChangeSpec) : _root_.Go.OpenSpec := { _root_.Go.OpenSpec.ofChange s with cond := some uptoSmall }

/-- 'saronlaw02.ForgeMelts', WHERE WHAT IT READS IS OF BULK AT MOST 1048576: true; the input reads as it did. -/
def forgeMeltsUptoRow : OpenClaim := { program := "ytgfbfbfajnfbjaadoor", sum := "5ce19bf846defaa01e5663a10298d1b547d37e2cd070cc8d2331ef6f26773e04", func := "saron/saronlaw02.ForgeMelts", spec := "forgeMelts", unfollowed := true, recurses := true, named := ["saron/forge.ends"], plainKeys := false, apart := false, laid := [("saron/forge.ends", laid_saron_forge_ends)], narrowed := true }
def ForgeMeltsUptoSaid : Prop := forgeMeltsUptoRow.holds Tryd.pinned (OpenSpec.upto forgeMeltsSpec)

/-- 'saronlaw02.ForgeCasts', WHERE WHAT IT READS IS OF BULK AT MOST 1048576: true; the input reads as it did. -/
def forgeCastsUptoRow : OpenClaim := { program := "ytgfbfbfajnfbjaadoor", sum := "5ce19bf846defaa01e5663a10298d1b547d37e2cd070cc8d2331ef6f26773e04", func := "saron/saronlaw02.ForgeCasts", spec := "forgeCasts", unfollowed := true, recurses := true, named := ["saron/forge.ends"], plainKeys := false, apart := false, laid := [("saron/forge.ends", laid_saron_forge_ends)], narrowed := true }
def ForgeCastsUptoSaid : Prop := forgeCastsUptoRow.holds Tryd.pinned (OpenSpec.upto forgeCastsSpec)

/-- 'saronlaw02.ForgeStrengths', WHERE WHAT IT READS IS OF BULK AT MOST 1048576: true; the input reads as it did. -/
def forgeStrengthsUptoRow : OpenClaim := { program := "ytgfbfbfajnfbjaadoor", sum := "5ce19bf846defaa01e5663a10298d1b547d37e2cd070cc8d2331ef6f26773e04", func := "saron/saronlaw02.ForgeStrengths", spec := "forgeStrengths", unfollowed := true, recurses := true, named := ["saron/forge.ends"], plainKeys := false, apart := false, laid := [("saron/forge.ends", laid_saron_forge_ends)], narrowed := true }
def ForgeStrengthsUptoSaid : Prop := forgeStrengthsUptoRow.holds Tryd.pinned (OpenSpec.upto forgeStrengthsSpec)

/-- 'saronlaw02.ForgeBlows', WHERE WHAT IT READS IS OF BULK AT MOST 1048576: true; the input reads as it did. -/
def forgeBlowsUptoRow : OpenClaim := { program := "ytgfbfbfajnfbjaadoor", sum := "5ce19bf846defaa01e5663a10298d1b547d37e2cd070cc8d2331ef6f26773e04", func := "saron/saronlaw02.ForgeBlows", spec := "forgeBlows", unfollowed := true, recurses := true, named := ["saron/forge.ends"], plainKeys := false, apart := false, laid := [("saron/forge.ends", laid_saron_forge_ends)], narrowed := true }
def ForgeBlowsUptoSaid : Prop := forgeBlowsUptoRow.holds Tryd.pinned (OpenSpec.upto forgeBlowsSpec)

/-- 'saronlaw02.ForgeTin', WHERE WHAT IT READS IS OF BULK AT MOST 1048576: true; the input reads as it did. -/
def forgeTinUptoRow : OpenClaim := { program := "ytgfbfbfajnfbjaadoor", sum := "5ce19bf846defaa01e5663a10298d1b547d37e2cd070cc8d2331ef6f26773e04", func := "saron/saronlaw02.ForgeTin", spec := "forgeTin", unfollowed := true, recurses := true, named := ["saron/forge.ends"], plainKeys := false, apart := false, laid := [("saron/forge.ends", laid_saron_forge_ends)], narrowed := true }
def ForgeTinUptoSaid : Prop := forgeTinUptoRow.holds Tryd.pinned (OpenSpec.upto forgeTinSpec)

/-- 'saronlaw02.ForgeFewest', WHERE WHAT IT READS IS OF BULK AT MOST 1048576: true; the input reads as it did. -/
def forgeFewestUptoRow : OpenClaim := { program := "ytgfbfbfajnfbjaadoor", sum := "5ce19bf846defaa01e5663a10298d1b547d37e2cd070cc8d2331ef6f26773e04", func := "saron/saronlaw02.ForgeFewest", spec := "forgeFewest", unfollowed := true, recurses := true, named := ["saron/forge.ends"], plainKeys := false, apart := false, laid := [("saron/forge.ends", laid_saron_forge_ends)], narrowed := true }
def ForgeFewestUptoSaid : Prop := forgeFewestUptoRow.holds Tryd.pinned (OpenSpec.upto forgeFewestSpec)

/-- 'saronlaw02.ForgeKept', WHERE WHAT IT READS IS OF BULK AT MOST 1048576: true; the input reads as it did. -/
def forgeKeptUptoRow : OpenClaim := { program := "ytgfbfbfajnfbjaadoor", sum := "5ce19bf846defaa01e5663a10298d1b547d37e2cd070cc8d2331ef6f26773e04", func := "saron/saronlaw02.ForgeKept", spec := "forgeKept", unfollowed := true, recurses := true, named := ["saron/forge.ends"], plainKeys := false, apart := false, laid := [("saron/forge.ends", laid_saron_forge_ends)], narrowed := true }
def ForgeKeptUptoSaid : Prop := forgeKeptUptoRow.holds Tryd.pinned (OpenSpec.upto forgeKeptSpec)

/-- 'saronlaw02.ForgeEasier', WHERE WHAT IT READS IS OF BULK AT MOST 1048576: true; the input reads as it did. -/
def forgeEasierUptoRow : OpenClaim := { program := "ytgfbfbfajnfbjaadoor", sum := "5ce19bf846defaa01e5663a10298d1b547d37e2cd070cc8d2331ef6f26773e04", func := "saron/saronlaw02.ForgeEasier", spec := "forgeEasier", unfollowed := true, recurses := true, named := ["saron/forge.ends"], plainKeys := false, apart := false, laid := [("saron/forge.ends", laid_saron_forge_ends)], narrowed := true }
def ForgeEasierUptoSaid : Prop := forgeEasierUptoRow.holds Tryd.pinned (OpenSpec.upto forgeEasierSpec)

/-- 'saronlaw02.ForgeTrue', WHERE WHAT IT READS IS OF BULK AT MOST 1048576: true; the input reads as it did. -/
def forgeTrueUptoRow : OpenClaim := { program := "ytgfbfbfajnfbjaadoor", sum := "5ce19bf846defaa01e5663a10298d1b547d37e2cd070cc8d2331ef6f26773e04", func := "saron/saronlaw02.ForgeTrue", spec := "forgeTrue", unfollowed := true, recurses := true, named := ["saron/forge.ends"], plainKeys := false, apart := false, laid := [("saron/forge.ends", laid_saron_forge_ends)], narrowed := true }
def ForgeTrueUptoSaid : Prop := forgeTrueUptoRow.holds Tryd.pinned (OpenSpec.upto forgeTrueSpec)

/-- 'saronlaw02.ForgeEnds', WHERE WHAT IT READS IS OF BULK AT MOST 1048576: true; the input reads as it did. -/
def forgeEndsUptoRow : OpenClaim := { program := "ytgfbfbfajnfbjaadoor", sum := "5ce19bf846defaa01e5663a10298d1b547d37e2cd070cc8d2331ef6f26773e04", func := "saron/saronlaw02.ForgeEnds", spec := "forgeEnds", unfollowed := true, recurses := true, named := ["saron/forge.ends"], plainKeys := false, apart := false, laid := [("saron/forge.ends", laid_saron_forge_ends)], narrowed := true }
def ForgeEndsUptoSaid : Prop := forgeEndsUptoRow.holds Tryd.pinned (OpenSpec.upto forgeEndsSpec)

/-- 'saronlaw02.ForgeMore', WHERE WHAT IT READS IS OF BULK AT MOST 1048576: true; the input reads as it did. -/
def forgeMoreUptoRow : OpenClaim := { program := "ytgfbfbfajnfbjaadoor", sum := "5ce19bf846defaa01e5663a10298d1b547d37e2cd070cc8d2331ef6f26773e04", func := "saron/saronlaw02.ForgeMore", spec := "forgeMore", unfollowed := true, recurses := true, named := ["saron/forge.ends"], plainKeys := false, apart := false, laid := [("saron/forge.ends", laid_saron_forge_ends)], narrowed := true }
def ForgeMoreUptoSaid : Prop := forgeMoreUptoRow.holds Tryd.pinned (OpenSpec.upto forgeMoreSpec)

/-- 'saronlaw02.ForgeReady', WHERE WHAT IT READS IS OF BULK AT MOST 1048576: true; the input reads as it did. -/
def forgeReadyUptoRow : OpenClaim := { program := "ytgfbfbfajnfbjaadoor", sum := "5ce19bf846defaa01e5663a10298d1b547d37e2cd070cc8d2331ef6f26773e04", func := "saron/saronlaw02.ForgeReady", spec := "forgeReady", unfollowed := true, recurses := true, named := ["saron/forge.ends"], plainKeys := false, apart := false, laid := [("saron/forge.ends", laid_saron_forge_ends)], narrowed := true }
def ForgeReadyUptoSaid : Prop := forgeReadyUptoRow.holds Tryd.pinned (OpenSpec.upto forgeReadySpec)

/-- 'saronlaw02.ForgeLeft', WHERE WHAT IT READS IS OF BULK AT MOST 1048576: true; the input reads as it did. -/
def forgeLeftUptoRow : OpenClaim := { program := "ytgfbfbfajnfbjaadoor", sum := "5ce19bf846defaa01e5663a10298d1b547d37e2cd070cc8d2331ef6f26773e04", func := "saron/saronlaw02.ForgeLeft", spec := "forgeLeft", unfollowed := true, recurses := true, named := ["saron/forge.ends"], plainKeys := false, apart := false, laid := [("saron/forge.ends", laid_saron_forge_ends)], narrowed := true }
def ForgeLeftUptoSaid : Prop := forgeLeftUptoRow.holds Tryd.pinned (OpenSpec.upto forgeLeftSpec)

/-- 'saronlaw02.ForgeHeats', WHERE WHAT IT READS IS OF BULK AT MOST 1048576: true; the input reads as it did. -/
def forgeHeatsUptoRow : OpenClaim := { program := "ytgfbfbfajnfbjaadoor", sum := "5ce19bf846defaa01e5663a10298d1b547d37e2cd070cc8d2331ef6f26773e04", func := "saron/saronlaw02.ForgeHeats", spec := "forgeHeats", unfollowed := true, recurses := true, named := ["saron/forge.ends"], plainKeys := false, apart := false, laid := [("saron/forge.ends", laid_saron_forge_ends)], narrowed := true }
def ForgeHeatsUptoSaid : Prop := forgeHeatsUptoRow.holds Tryd.pinned (OpenSpec.upto forgeHeatsSpec)

/-- 'saronlaw02.ForgeKnown', WHERE WHAT IT READS IS OF BULK AT MOST 1048576: true; the input reads as it did. -/
def forgeKnownUptoRow : OpenClaim := { program := "ytgfbfbfajnfbjaadoor", sum := "5ce19bf846defaa01e5663a10298d1b547d37e2cd070cc8d2331ef6f26773e04", func := "saron/saronlaw02.ForgeKnown", spec := "forgeKnown", unfollowed := true, recurses := true, named := ["saron/forge.ends"], plainKeys := false, apart := false, laid := [("saron/forge.ends", laid_saron_forge_ends)], narrowed := true }
def ForgeKnownUptoSaid : Prop := forgeKnownUptoRow.holds Tryd.pinned (OpenSpec.upto forgeKnownSpec)

end Rows
end Go.Proofs.YtgfbfbfajnfbjaaDoor
