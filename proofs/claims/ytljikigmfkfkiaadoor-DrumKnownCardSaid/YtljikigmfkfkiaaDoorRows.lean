/-
  NARROWER THAN 'FOR EVERY INPUT', by the rows' own cells (each row's printed sentence says how): DrumPaths: laid · DrumPlans: laid · DrumBounds: laid · DrumKnows: laid · DrumGong: laid · DrumTrue: laid · DrumEnds: laid · DrumFewest: laid · DrumBound: laid · DrumEasier: laid · DrumCued: laid · DrumListens: laid · DrumKnown: laid.
  DERIVED. THE GIVEN ROWS OF THIS SEAT. 13 by the template 'for every input the law returns true; each argument reads behind the call as it read before'; 0 by the template 'total and deterministic' (their statements: YtljikigmfkfkiaaDoorTotals.lean).
  GIVEN WITH THE SEED: the statements are not yours to turn. If you find one false, say at which input.
  Laid BY PROGRAM, IN A SANDBOX (cutbox-rows.mjs): the forced cells as the released guide's own fill.sh prints them over the translation e1f9f12506a19cb7… (all of the seat's roots in one cut). By AI agents, Wed Nov 11 2026. No macro, syntax, notation, axiom, sorry.
-/
import Derived.Test.YtljikigmfkfkiaaDoorChecked
import GoSem.Claim
import GoSem.ClaimJoined
import GoSem.ClaimMapViews
import Derived.JoinedTies
import Derived.KernelRfl
namespace Go.Proofs.YtljikigmfkfkiaaDoor
/- THE CELL 'sum', in the pinned program and in every row, IS THE sha256 OF THE DUMP (.gsa) THAT YtljikigmfkfkiaaDoorProg.lean LOADS. Nothing in Lean hashes anything: it is a label: what it is worth is what the hold of that sum in a sandbox is worth. -/
noncomputable def Tryd.pinned : Pinned := { name := "ytljikigmfkfkiaadoor", sum := "e1f9f12506a19cb76aa8e37d6289a4d24651e4cc174b2c0658dd6a81f1fc2d44", checked := Tryd.checked }
namespace Rows
def none {H : Type} : Left H := { results := [], args := [] }

/- WHAT THE LISTED PACKAGE-LEVEL VARIABLES READ AS WHEN THE CALL BEGINS. Each datum BY PROGRAM (the guide's laid-datum.mjs) off the statement by which the dump's own 'gosem.cut.vars' lays the variable. In a bare row this is a premise. The card (YtljikigmfkfkiaaDoorCards.lean) ties it to the program's text. -/
def laid_saron_drum_marks {H : Type} : DataW H := .iface "func table" (.agg [.iface "func" (.lit (.string [40, 115, 97, 114, 111, 110, 47, 100, 114, 117, 109, 46, 98, 111, 111, 107, 41, 46, 115, 108, 105, 112, 115])), .iface "func" (.lit (.string [40, 115, 97, 114, 111, 110, 47, 100, 114, 117, 109, 46, 98, 111, 111, 107, 41, 46, 115, 116, 97, 121, 115]))])

/-- 'saronlaw08.DrumPaths': WHATEVER THE INPUT: true; the input reads as it did. -/
def drumPathsSpec : ChangeSpec := { name := "drumPaths", fn := fun _ => fun
  | [d1, d2, d3] => { results := [.lit (.bool true)], args := [d1, d2, d3] }
  | _ => none }
def drumPathsRow : OpenClaim := { program := "ytljikigmfkfkiaadoor", sum := "e1f9f12506a19cb76aa8e37d6289a4d24651e4cc174b2c0658dd6a81f1fc2d44", func := "saron/saronlaw08.DrumPaths", spec := "drumPaths", unfollowed := true, recurses := true, named := ["saron/drum.marks"], plainKeys := false, apart := false, laid := [("saron/drum.marks", laid_saron_drum_marks)] }
def DrumPathsSaid : Prop := drumPathsRow.holds Tryd.pinned (OpenSpec.ofChange drumPathsSpec)

/-- ITS FALSE NEIGHBOUR: 'it returns false'. Refute it at one input. -/
def drumPathsWrong : ChangeSpec := { name := "drumPaths", fn := fun _ => fun
  | [d1, d2, d3] => { results := [.lit (.bool false)], args := [d1, d2, d3] }
  | _ => none }
def DrumPathsWrongFalsely : Prop := drumPathsRow.holds Tryd.pinned (OpenSpec.ofChange drumPathsWrong)

/-- 'saronlaw08.DrumPlans': WHATEVER THE INPUT: true; the input reads as it did. -/
def drumPlansSpec : ChangeSpec := { name := "drumPlans", fn := fun _ => fun
  | [d1, d2] => { results := [.lit (.bool true)], args := [d1, d2] }
  | _ => none }
def drumPlansRow : OpenClaim := { program := "ytljikigmfkfkiaadoor", sum := "e1f9f12506a19cb76aa8e37d6289a4d24651e4cc174b2c0658dd6a81f1fc2d44", func := "saron/saronlaw08.DrumPlans", spec := "drumPlans", unfollowed := true, recurses := true, named := ["saron/drum.marks"], plainKeys := false, apart := false, laid := [("saron/drum.marks", laid_saron_drum_marks)] }
def DrumPlansSaid : Prop := drumPlansRow.holds Tryd.pinned (OpenSpec.ofChange drumPlansSpec)

/-- ITS FALSE NEIGHBOUR: 'it returns false'. Refute it at one input. -/
def drumPlansWrong : ChangeSpec := { name := "drumPlans", fn := fun _ => fun
  | [d1, d2] => { results := [.lit (.bool false)], args := [d1, d2] }
  | _ => none }
def DrumPlansWrongFalsely : Prop := drumPlansRow.holds Tryd.pinned (OpenSpec.ofChange drumPlansWrong)

/-- 'saronlaw08.DrumBounds': WHATEVER THE INPUT: true; the input reads as it did. -/
def drumBoundsSpec : ChangeSpec := { name := "drumBounds", fn := fun _ => fun
  | [d1, d2, d3] => { results := [.lit (.bool true)], args := [d1, d2, d3] }
  | _ => none }
def drumBoundsRow : OpenClaim := { program := "ytljikigmfkfkiaadoor", sum := "e1f9f12506a19cb76aa8e37d6289a4d24651e4cc174b2c0658dd6a81f1fc2d44", func := "saron/saronlaw08.DrumBounds", spec := "drumBounds", unfollowed := true, recurses := true, named := ["saron/drum.marks"], plainKeys := false, apart := false, laid := [("saron/drum.marks", laid_saron_drum_marks)] }
def DrumBoundsSaid : Prop := drumBoundsRow.holds Tryd.pinned (OpenSpec.ofChange drumBoundsSpec)

/-- ITS FALSE NEIGHBOUR: 'it returns false'. Refute it at one input. -/
def drumBoundsWrong : ChangeSpec := { name := "drumBounds", fn := fun _ => fun
  | [d1, d2, d3] => { results := [.lit (.bool false)], args := [d1, d2, d3] }
  | _ => none }
def DrumBoundsWrongFalsely : Prop := drumBoundsRow.holds Tryd.pinned (OpenSpec.ofChange drumBoundsWrong)

/-- 'saronlaw08.DrumKnows': WHATEVER THE INPUT: true; the input reads as it did. -/
def drumKnowsSpec : ChangeSpec := { name := "drumKnows", fn := fun _ => fun
  | [d1, d2, d3] => { results := [.lit (.bool true)], args := [d1, d2, d3] }
  | _ => none }
def drumKnowsRow : OpenClaim := { program := "ytljikigmfkfkiaadoor", sum := "e1f9f12506a19cb76aa8e37d6289a4d24651e4cc174b2c0658dd6a81f1fc2d44", func := "saron/saronlaw08.DrumKnows", spec := "drumKnows", unfollowed := true, recurses := true, named := ["saron/drum.marks"], plainKeys := false, apart := false, laid := [("saron/drum.marks", laid_saron_drum_marks)] }
def DrumKnowsSaid : Prop := drumKnowsRow.holds Tryd.pinned (OpenSpec.ofChange drumKnowsSpec)

/-- ITS FALSE NEIGHBOUR: 'it returns false'. Refute it at one input. -/
def drumKnowsWrong : ChangeSpec := { name := "drumKnows", fn := fun _ => fun
  | [d1, d2, d3] => { results := [.lit (.bool false)], args := [d1, d2, d3] }
  | _ => none }
def DrumKnowsWrongFalsely : Prop := drumKnowsRow.holds Tryd.pinned (OpenSpec.ofChange drumKnowsWrong)

/-- 'saronlaw08.DrumGong': WHATEVER THE INPUT: true; the input reads as it did. -/
def drumGongSpec : ChangeSpec := { name := "drumGong", fn := fun _ => fun
  | [d1, d2] => { results := [.lit (.bool true)], args := [d1, d2] }
  | _ => none }
def drumGongRow : OpenClaim := { program := "ytljikigmfkfkiaadoor", sum := "e1f9f12506a19cb76aa8e37d6289a4d24651e4cc174b2c0658dd6a81f1fc2d44", func := "saron/saronlaw08.DrumGong", spec := "drumGong", unfollowed := true, recurses := true, named := ["saron/drum.marks"], plainKeys := false, apart := false, laid := [("saron/drum.marks", laid_saron_drum_marks)] }
def DrumGongSaid : Prop := drumGongRow.holds Tryd.pinned (OpenSpec.ofChange drumGongSpec)

/-- ITS FALSE NEIGHBOUR: 'it returns false'. Refute it at one input. -/
def drumGongWrong : ChangeSpec := { name := "drumGong", fn := fun _ => fun
  | [d1, d2] => { results := [.lit (.bool false)], args := [d1, d2] }
  | _ => none }
def DrumGongWrongFalsely : Prop := drumGongRow.holds Tryd.pinned (OpenSpec.ofChange drumGongWrong)

/-- 'saronlaw08.DrumTrue': WHATEVER THE INPUT: true; the input reads as it did. -/
def drumTrueSpec : ChangeSpec := { name := "drumTrue", fn := fun _ => fun
  | [d1, d2] => { results := [.lit (.bool true)], args := [d1, d2] }
  | _ => none }
def drumTrueRow : OpenClaim := { program := "ytljikigmfkfkiaadoor", sum := "e1f9f12506a19cb76aa8e37d6289a4d24651e4cc174b2c0658dd6a81f1fc2d44", func := "saron/saronlaw08.DrumTrue", spec := "drumTrue", unfollowed := true, recurses := true, named := ["saron/drum.marks"], plainKeys := false, apart := false, laid := [("saron/drum.marks", laid_saron_drum_marks)] }
def DrumTrueSaid : Prop := drumTrueRow.holds Tryd.pinned (OpenSpec.ofChange drumTrueSpec)

/-- ITS FALSE NEIGHBOUR: 'it returns false'. Refute it at one input. -/
def drumTrueWrong : ChangeSpec := { name := "drumTrue", fn := fun _ => fun
  | [d1, d2] => { results := [.lit (.bool false)], args := [d1, d2] }
  | _ => none }
def DrumTrueWrongFalsely : Prop := drumTrueRow.holds Tryd.pinned (OpenSpec.ofChange drumTrueWrong)

/-- 'saronlaw08.DrumEnds': WHATEVER THE INPUT: true; the input reads as it did. -/
def drumEndsSpec : ChangeSpec := { name := "drumEnds", fn := fun _ => fun
  | [d1, d2, d3] => { results := [.lit (.bool true)], args := [d1, d2, d3] }
  | _ => none }
def drumEndsRow : OpenClaim := { program := "ytljikigmfkfkiaadoor", sum := "e1f9f12506a19cb76aa8e37d6289a4d24651e4cc174b2c0658dd6a81f1fc2d44", func := "saron/saronlaw08.DrumEnds", spec := "drumEnds", unfollowed := true, recurses := true, named := ["saron/drum.marks"], plainKeys := false, apart := false, laid := [("saron/drum.marks", laid_saron_drum_marks)] }
def DrumEndsSaid : Prop := drumEndsRow.holds Tryd.pinned (OpenSpec.ofChange drumEndsSpec)

/-- ITS FALSE NEIGHBOUR: 'it returns false'. Refute it at one input. -/
def drumEndsWrong : ChangeSpec := { name := "drumEnds", fn := fun _ => fun
  | [d1, d2, d3] => { results := [.lit (.bool false)], args := [d1, d2, d3] }
  | _ => none }
def DrumEndsWrongFalsely : Prop := drumEndsRow.holds Tryd.pinned (OpenSpec.ofChange drumEndsWrong)

/-- 'saronlaw08.DrumFewest': WHATEVER THE INPUT: true; the input reads as it did. -/
def drumFewestSpec : ChangeSpec := { name := "drumFewest", fn := fun _ => fun
  | [d1, d2] => { results := [.lit (.bool true)], args := [d1, d2] }
  | _ => none }
def drumFewestRow : OpenClaim := { program := "ytljikigmfkfkiaadoor", sum := "e1f9f12506a19cb76aa8e37d6289a4d24651e4cc174b2c0658dd6a81f1fc2d44", func := "saron/saronlaw08.DrumFewest", spec := "drumFewest", unfollowed := true, recurses := true, named := ["saron/drum.marks"], plainKeys := false, apart := false, laid := [("saron/drum.marks", laid_saron_drum_marks)] }
def DrumFewestSaid : Prop := drumFewestRow.holds Tryd.pinned (OpenSpec.ofChange drumFewestSpec)

/-- ITS FALSE NEIGHBOUR: 'it returns false'. Refute it at one input. -/
def drumFewestWrong : ChangeSpec := { name := "drumFewest", fn := fun _ => fun
  | [d1, d2] => { results := [.lit (.bool false)], args := [d1, d2] }
  | _ => none }
def DrumFewestWrongFalsely : Prop := drumFewestRow.holds Tryd.pinned (OpenSpec.ofChange drumFewestWrong)

/-- 'saronlaw08.DrumBound': WHATEVER THE INPUT: true; the input reads as it did. -/
def drumBoundSpec : ChangeSpec := { name := "drumBound", fn := fun _ => fun
  | [d1, d2, d3] => { results := [.lit (.bool true)], args := [d1, d2, d3] }
  | _ => none }
def drumBoundRow : OpenClaim := { program := "ytljikigmfkfkiaadoor", sum := "e1f9f12506a19cb76aa8e37d6289a4d24651e4cc174b2c0658dd6a81f1fc2d44", func := "saron/saronlaw08.DrumBound", spec := "drumBound", unfollowed := true, recurses := true, named := ["saron/drum.marks"], plainKeys := false, apart := false, laid := [("saron/drum.marks", laid_saron_drum_marks)] }
def DrumBoundSaid : Prop := drumBoundRow.holds Tryd.pinned (OpenSpec.ofChange drumBoundSpec)

/-- ITS FALSE NEIGHBOUR: 'it returns false'. Refute it at one input. -/
def drumBoundWrong : ChangeSpec := { name := "drumBound", fn := fun _ => fun
  | [d1, d2, d3] => { results := [.lit (.bool false)], args := [d1, d2, d3] }
  | _ => none }
def DrumBoundWrongFalsely : Prop := drumBoundRow.holds Tryd.pinned (OpenSpec.ofChange drumBoundWrong)

/-- 'saronlaw08.DrumEasier': WHATEVER THE INPUT: true; the input reads as it did. -/
def drumEasierSpec : ChangeSpec := { name := "drumEasier", fn := fun _ => fun
  | [d1, d2, d3] => { results := [.lit (.bool true)], args := [d1, d2, d3] }
  | _ => none }
def drumEasierRow : OpenClaim := { program := "ytljikigmfkfkiaadoor", sum := "e1f9f12506a19cb76aa8e37d6289a4d24651e4cc174b2c0658dd6a81f1fc2d44", func := "saron/saronlaw08.DrumEasier", spec := "drumEasier", unfollowed := true, recurses := true, named := ["saron/drum.marks"], plainKeys := false, apart := false, laid := [("saron/drum.marks", laid_saron_drum_marks)] }
def DrumEasierSaid : Prop := drumEasierRow.holds Tryd.pinned (OpenSpec.ofChange drumEasierSpec)

/-- ITS FALSE NEIGHBOUR: 'it returns false'. Refute it at one input. -/
def drumEasierWrong : ChangeSpec := { name := "drumEasier", fn := fun _ => fun
  | [d1, d2, d3] => { results := [.lit (.bool false)], args := [d1, d2, d3] }
  | _ => none }
def DrumEasierWrongFalsely : Prop := drumEasierRow.holds Tryd.pinned (OpenSpec.ofChange drumEasierWrong)

/-- 'saronlaw08.DrumCued': WHATEVER THE INPUT: true; the input reads as it did. -/
def drumCuedSpec : ChangeSpec := { name := "drumCued", fn := fun _ => fun
  | [d1, d2] => { results := [.lit (.bool true)], args := [d1, d2] }
  | _ => none }
def drumCuedRow : OpenClaim := { program := "ytljikigmfkfkiaadoor", sum := "e1f9f12506a19cb76aa8e37d6289a4d24651e4cc174b2c0658dd6a81f1fc2d44", func := "saron/saronlaw08.DrumCued", spec := "drumCued", unfollowed := true, recurses := true, named := ["saron/drum.marks"], plainKeys := false, apart := false, laid := [("saron/drum.marks", laid_saron_drum_marks)] }
def DrumCuedSaid : Prop := drumCuedRow.holds Tryd.pinned (OpenSpec.ofChange drumCuedSpec)

/-- ITS FALSE NEIGHBOUR: 'it returns false'. Refute it at one input. -/
def drumCuedWrong : ChangeSpec := { name := "drumCued", fn := fun _ => fun
  | [d1, d2] => { results := [.lit (.bool false)], args := [d1, d2] }
  | _ => none }
def DrumCuedWrongFalsely : Prop := drumCuedRow.holds Tryd.pinned (OpenSpec.ofChange drumCuedWrong)

/-- 'saronlaw08.DrumListens': WHATEVER THE INPUT: true; the input reads as it did. -/
def drumListensSpec : ChangeSpec := { name := "drumListens", fn := fun _ => fun
  | [d1, d2, d3] => { results := [.lit (.bool true)], args := [d1, d2, d3] }
  | _ => none }
def drumListensRow : OpenClaim := { program := "ytljikigmfkfkiaadoor", sum := "e1f9f12506a19cb76aa8e37d6289a4d24651e4cc174b2c0658dd6a81f1fc2d44", func := "saron/saronlaw08.DrumListens", spec := "drumListens", unfollowed := true, recurses := true, named := ["saron/drum.marks"], plainKeys := false, apart := false, laid := [("saron/drum.marks", laid_saron_drum_marks)] }
def DrumListensSaid : Prop := drumListensRow.holds Tryd.pinned (OpenSpec.ofChange drumListensSpec)

/-- ITS FALSE NEIGHBOUR: 'it returns false'. Refute it at one input. -/
def drumListensWrong : ChangeSpec := { name := "drumListens", fn := fun _ => fun
  | [d1, d2, d3] => { results := [.lit (.bool false)], args := [d1, d2, d3] }
  | _ => none }
def DrumListensWrongFalsely : Prop := drumListensRow.holds Tryd.pinned (OpenSpec.ofChange drumListensWrong)

/-- 'saronlaw08.DrumKnown': WHATEVER THE INPUT: true; the input reads as it did. -/
def drumKnownSpec : ChangeSpec := { name := "drumKnown", fn := fun _ => fun
  | [] => { results := [.lit (.bool true)], args := [] }
  | _ => none }
def drumKnownRow : OpenClaim := { program := "ytljikigmfkfkiaadoor", sum := "e1f9f12506a19cb76aa8e37d6289a4d24651e4cc174b2c0658dd6a81f1fc2d44", func := "saron/saronlaw08.DrumKnown", spec := "drumKnown", unfollowed := true, recurses := true, named := ["saron/drum.marks"], plainKeys := false, apart := false, laid := [("saron/drum.marks", laid_saron_drum_marks)] }
def DrumKnownSaid : Prop := drumKnownRow.holds Tryd.pinned (OpenSpec.ofChange drumKnownSpec)

/-- ITS FALSE NEIGHBOUR: 'it returns false'. Refute it at one input. -/
def drumKnownWrong : ChangeSpec := { name := "drumKnown", fn := fun _ => fun
  | [] => { results := [.lit (.bool false)], args := [] }
  | _ => none }
def DrumKnownWrongFalsely : Prop := drumKnownRow.holds Tryd.pinned (OpenSpec.ofChange drumKnownWrong)

/- THE SECOND FORM. 'bulk': how many values and letters a reading holds, each counted each time it is reached (what is shared counts as often as it is met; a slice's spare places count too). A statement '..UptoSaid' is the law's where the arguments, and the package variables that the reading takes, are together of bulk at most 1048576: NARROWER than '..Said'. Prove '..Said' where nothing that the law and all that it calls make is longer than what came in: it says more and counts as full. Else prove '..UptoSaid'. A law counts once. -/
mutual
def uptoBulk {H : Type} : DataW H → Nat
  | .lit (.string bytes) => bytes.length + 1
  | .lit _ => 1
  | .nil => 1
  | .ptr d => uptoBulk d + 1
  | .slice elems spare => uptoBulkAll elems + uptoBulkAll spare + 1
  | .agg parts => uptoBulkAll parts + 1
  | .iface _ d => uptoBulk d + 1
  | .map entries => uptoBulkEntries entries + 1
  | .held _ => 1
def uptoBulkAll {H : Type} : List (DataW H) → Nat
  | [] => 0
  | d :: r => uptoBulk d + uptoBulkAll r
def uptoBulkEntries {H : Type} : List (Lit × DataW H) → Nat
  | [] => 0
  | x :: r => uptoBulkEntry x + uptoBulkEntries r
def uptoBulkEntry {H : Type} : Lit × DataW H → Nat
  | (.string bytes, d) => bytes.length + uptoBulk d + 1
  | (_, d) => uptoBulk d + 1
 end
def uptoSmall : (H : Type) → List (DataW H) → Bool := fun _ ds => decide (uptoBulkAll ds ≤ 1048576)
def OpenSpec.upto (s : _root_.Go.ChangeSpec) : _root_.Go.OpenSpec := { _root_.Go.OpenSpec.ofChange s with cond := some uptoSmall }

/-- 'saronlaw08.DrumPaths', WHERE WHAT IT READS IS OF BULK AT MOST 1048576: true; the input reads as it did. -/
def drumPathsUptoRow : OpenClaim := { program := "ytljikigmfkfkiaadoor", sum := "e1f9f12506a19cb76aa8e37d6289a4d24651e4cc174b2c0658dd6a81f1fc2d44", func := "saron/saronlaw08.DrumPaths", spec := "drumPaths", unfollowed := true, recurses := true, named := ["saron/drum.marks"], plainKeys := false, apart := false, laid := [("saron/drum.marks", laid_saron_drum_marks)], narrowed := true }
def DrumPathsUptoSaid : Prop := drumPathsUptoRow.holds Tryd.pinned (OpenSpec.upto drumPathsSpec)

/-- 'saronlaw08.DrumPlans', WHERE WHAT IT READS IS OF BULK AT MOST 1048576: true; the input reads as it did. -/
def drumPlansUptoRow : OpenClaim := { program := "ytljikigmfkfkiaadoor", sum := "e1f9f12506a19cb76aa8e37d6289a4d24651e4cc174b2c0658dd6a81f1fc2d44", func := "saron/saronlaw08.DrumPlans", spec := "drumPlans", unfollowed := true, recurses := true, named := ["saron/drum.marks"], plainKeys := false, apart := false, laid := [("saron/drum.marks", laid_saron_drum_marks)], narrowed := true }
def DrumPlansUptoSaid : Prop := drumPlansUptoRow.holds Tryd.pinned (OpenSpec.upto drumPlansSpec)

/-- 'saronlaw08.DrumBounds', WHERE WHAT IT READS IS OF BULK AT MOST 1048576: true; the input reads as it did. -/
def drumBoundsUptoRow : OpenClaim := { program := "ytljikigmfkfkiaadoor", sum := "e1f9f12506a19cb76aa8e37d6289a4d24651e4cc174b2c0658dd6a81f1fc2d44", func := "saron/saronlaw08.DrumBounds", spec := "drumBounds", unfollowed := true, recurses := true, named := ["saron/drum.marks"], plainKeys := false, apart := false, laid := [("saron/drum.marks", laid_saron_drum_marks)], narrowed := true }
def DrumBoundsUptoSaid : Prop := drumBoundsUptoRow.holds Tryd.pinned (OpenSpec.upto drumBoundsSpec)

/-- 'saronlaw08.DrumKnows', WHERE WHAT IT READS IS OF BULK AT MOST 1048576: true; the input reads as it did. -/
def drumKnowsUptoRow : OpenClaim := { program := "ytljikigmfkfkiaadoor", sum := "e1f9f12506a19cb76aa8e37d6289a4d24651e4cc174b2c0658dd6a81f1fc2d44", func := "saron/saronlaw08.DrumKnows", spec := "drumKnows", unfollowed := true, recurses := true, named := ["saron/drum.marks"], plainKeys := false, apart := false, laid := [("saron/drum.marks", laid_saron_drum_marks)], narrowed := true }
def DrumKnowsUptoSaid : Prop := drumKnowsUptoRow.holds Tryd.pinned (OpenSpec.upto drumKnowsSpec)

/-- 'saronlaw08.DrumGong', WHERE WHAT IT READS IS OF BULK AT MOST 1048576: true; the input reads as it did. -/
def drumGongUptoRow : OpenClaim := { program := "ytljikigmfkfkiaadoor", sum := "e1f9f12506a19cb76aa8e37d6289a4d24651e4cc174b2c0658dd6a81f1fc2d44", func := "saron/saronlaw08.DrumGong", spec := "drumGong", unfollowed := true, recurses := true, named := ["saron/drum.marks"], plainKeys := false, apart := false, laid := [("saron/drum.marks", laid_saron_drum_marks)], narrowed := true }
def DrumGongUptoSaid : Prop := drumGongUptoRow.holds Tryd.pinned (OpenSpec.upto drumGongSpec)

/-- 'saronlaw08.DrumTrue', WHERE WHAT IT READS IS OF BULK AT MOST 1048576: true; the input reads as it did. -/
def drumTrueUptoRow : OpenClaim := { program := "ytljikigmfkfkiaadoor", sum := "e1f9f12506a19cb76aa8e37d6289a4d24651e4cc174b2c0658dd6a81f1fc2d44", func := "saron/saronlaw08.DrumTrue", spec := "drumTrue", unfollowed := true, recurses := true, named := ["saron/drum.marks"], plainKeys := false, apart := false, laid := [("saron/drum.marks", laid_saron_drum_marks)], narrowed := true }
def DrumTrueUptoSaid : Prop := drumTrueUptoRow.holds Tryd.pinned (OpenSpec.upto drumTrueSpec)

/-- 'saronlaw08.DrumEnds', WHERE WHAT IT READS IS OF BULK AT MOST 1048576: true; the input reads as it did. -/
def drumEndsUptoRow : OpenClaim := { program := "ytljikigmfkfkiaadoor", sum := "e1f9f12506a19cb76aa8e37d6289a4d24651e4cc174b2c0658dd6a81f1fc2d44", func := "saron/saronlaw08.DrumEnds", spec := "drumEnds", unfollowed := true, recurses := true, named := ["saron/drum.marks"], plainKeys := false, apart := false, laid := [("saron/drum.marks", laid_saron_drum_marks)], narrowed := true }
def DrumEndsUptoSaid : Prop := drumEndsUptoRow.holds Tryd.pinned (OpenSpec.upto drumEndsSpec)

/-- 'saronlaw08.DrumFewest', WHERE WHAT IT READS IS OF BULK AT MOST 1048576: true; the input reads as it did. -/
def drumFewestUptoRow : OpenClaim := { program := "ytljikigmfkfkiaadoor", sum := "e1f9f12506a19cb76aa8e37d6289a4d24651e4cc174b2c0658dd6a81f1fc2d44", func := "saron/saronlaw08.DrumFewest", spec := "drumFewest", unfollowed := true, recurses := true, named := ["saron/drum.marks"], plainKeys := false, apart := false, laid := [("saron/drum.marks", laid_saron_drum_marks)], narrowed := true }
def DrumFewestUptoSaid : Prop := drumFewestUptoRow.holds Tryd.pinned (OpenSpec.upto drumFewestSpec)

/-- 'saronlaw08.DrumBound', WHERE WHAT IT READS IS OF BULK AT MOST 1048576: true; the input reads as it did. -/
def drumBoundUptoRow : OpenClaim := { program := "ytljikigmfkfkiaadoor", sum := "e1f9f12506a19cb76aa8e37d6289a4d24651e4cc174b2c0658dd6a81f1fc2d44", func := "saron/saronlaw08.DrumBound", spec := "drumBound", unfollowed := true, recurses := true, named := ["saron/drum.marks"], plainKeys := false, apart := false, laid := [("saron/drum.marks", laid_saron_drum_marks)], narrowed := true }
def DrumBoundUptoSaid : Prop := drumBoundUptoRow.holds Tryd.pinned (OpenSpec.upto drumBoundSpec)

/-- 'saronlaw08.DrumEasier', WHERE WHAT IT READS IS OF BULK AT MOST 1048576: true; the input reads as it did. -/
def drumEasierUptoRow : OpenClaim := { program := "ytljikigmfkfkiaadoor", sum := "e1f9f12506a19cb76aa8e37d6289a4d24651e4cc174b2c0658dd6a81f1fc2d44", func := "saron/saronlaw08.DrumEasier", spec := "drumEasier", unfollowed := true, recurses := true, named := ["saron/drum.marks"], plainKeys := false, apart := false, laid := [("saron/drum.marks", laid_saron_drum_marks)], narrowed := true }
def DrumEasierUptoSaid : Prop := drumEasierUptoRow.holds Tryd.pinned (OpenSpec.upto drumEasierSpec)

/-- 'saronlaw08.DrumCued', WHERE WHAT IT READS IS OF BULK AT MOST 1048576: true; the input reads as it did. -/
def drumCuedUptoRow : OpenClaim := { program := "ytljikigmfkfkiaadoor", sum := "e1f9f12506a19cb76aa8e37d6289a4d24651e4cc174b2c0658dd6a81f1fc2d44", func := "saron/saronlaw08.DrumCued", spec := "drumCued", unfollowed := true, recurses := true, named := ["saron/drum.marks"], plainKeys := false, apart := false, laid := [("saron/drum.marks", laid_saron_drum_marks)], narrowed := true }
def DrumCuedUptoSaid : Prop := drumCuedUptoRow.holds Tryd.pinned (OpenSpec.upto drumCuedSpec)

/-- 'saronlaw08.DrumListens', WHERE WHAT IT READS IS OF BULK AT MOST 1048576: true; the input reads as it did. -/
def drumListensUptoRow : OpenClaim := { program := "ytljikigmfkfkiaadoor", sum := "e1f9f12506a19cb76aa8e37d6289a4d24651e4cc174b2c0658dd6a81f1fc2d44", func := "saron/saronlaw08.DrumListens", spec := "drumListens", unfollowed := true, recurses := true, named := ["saron/drum.marks"], plainKeys := false, apart := false, laid := [("saron/drum.marks", laid_saron_drum_marks)], narrowed := true }
def DrumListensUptoSaid : Prop := drumListensUptoRow.holds Tryd.pinned (OpenSpec.upto drumListensSpec)

/-- 'saronlaw08.DrumKnown', WHERE WHAT IT READS IS OF BULK AT MOST 1048576: true; the input reads as it did. -/
def drumKnownUptoRow : OpenClaim := { program := "ytljikigmfkfkiaadoor", sum := "e1f9f12506a19cb76aa8e37d6289a4d24651e4cc174b2c0658dd6a81f1fc2d44", func := "saron/saronlaw08.DrumKnown", spec := "drumKnown", unfollowed := true, recurses := true, named := ["saron/drum.marks"], plainKeys := false, apart := false, laid := [("saron/drum.marks", laid_saron_drum_marks)], narrowed := true }
def DrumKnownUptoSaid : Prop := drumKnownUptoRow.holds Tryd.pinned (OpenSpec.upto drumKnownSpec)

end Rows
end Go.Proofs.YtljikigmfkfkiaaDoor
