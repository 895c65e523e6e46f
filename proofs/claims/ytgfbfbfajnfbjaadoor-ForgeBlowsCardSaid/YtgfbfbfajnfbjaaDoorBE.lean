import Derived.Test.YtgfbfbfajnfbjaaDoorBD
import Derived.Test.YtgfbfbfajnfbjaaDoorAA
import Derived.Test.YtgfbfbfajnfbjaaDoorAB
import Derived.Test.YtgfbfbfajnfbjaaDoorAG
import Derived.Test.YtgfbfbfajnfbjaaDoorAL
namespace Go.Proofs.YtgfbfbfajnfbjaaDoor
section
open Go.RowKit
set_option linter.unusedVariables false
section
variable (a1 a2 c3 : Nat) (A3 : Option Addr)
theorem bk_good : goodF (bookF a1 a2 A3 c3 []) = true := by kernel_rfl
theorem bk_melt : isMeltR (bookF a1 a2 A3 c3 []) [2, 1, 0] = .tuple #[.bool true, .int .i64 0] := by kernel_rfl
theorem bk_cast : bestOf (meltsS (bookF a1 a2 A3 c3 []) (stockS (bookF a1 a2 A3 c3 [])) 3) = some [2, 1, 0] := by kernel_rfl
theorem bk_casts : castsS (bookF a1 a2 A3 c3 []) (stockS (bookF a1 a2 A3 c3 [])) [3, 4] = some [[2, 1, 0], [2, 2, 0]] := by kernel_rfl
theorem bk_most : mostR (bookF a1 a2 A3 c3 []) = .tuple #[.int .i64 7, .int .i64 0] := by kernel_rfl
theorem bk_can : canS (bookF a1 a2 A3 c3 []) 0 = true := by kernel_rfl
theorem bk_strength : strengthS (bookF a1 a2 A3 c3 []) 0 = [2, 3] := by kernel_rfl
theorem bk_asked : askedE (bookF a1 a2 A3 c3 []) (inB 0 0 2) = 0 := by kernel_rfl
theorem bk_thick : thickR (bookF a1 a2 A3 c3 []) 9 = .tuple #[.agg #[.int .i64 73, .int .i64 76], .int .i64 0] := by kernel_rfl
theorem bk_good2 : goodF (bookF a1 a2 A3 c3 [⟨12, 80, 1⟩]) = true := by kernel_rfl
theorem bk_wrong : wrongS (bookF a1 a2 A3 c3 [⟨12, 80, 1⟩]) = [2] := by kernel_rfl
theorem bk_blows : blowsR (bookF a1 a2 A3 c3 []) = .tuple #[.int .i64 19, .int .i64 0] := by kernel_rfl
theorem bk_sound : soundR (bookF a1 a2 A3 c3 []) = .tuple #[.int .i64 26, .int .i64 0] := by kernel_rfl
theorem bk_heats : heatsR (bookF a1 a2 A3 c3 []) 12 = .tuple #[.agg #[.int .i64 2, .int .i64 3], .agg #[.int .i64 6, .int .i64 9], .int .i64 0] := by kernel_rfl
end
end
end Go.Proofs.YtgfbfbfajnfbjaaDoor
