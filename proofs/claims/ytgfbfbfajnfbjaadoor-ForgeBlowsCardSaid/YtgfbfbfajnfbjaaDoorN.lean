import Derived.Test.YtgfbfbfajnfbjaaDoorD
namespace Go.Proofs.YtgfbfbfajnfbjaaDoor
section
open Go.RowKit Go.Shelf
attribute [local go_sem] Oper.semAt_some
set_option linter.unusedSimpArgs false
set_option linter.unusedVariables false
theorem struck_calls (n k : Int) (hn : 0 ≤ n ∧ n ≤ 300) (hk : 0 ≤ k ∧ k ≤ 2) (w : World) : Calls Tryd.prog 112 #[.int .i64 n, .int .i64 k] w fun e w' => e = .returned (.int .i64 (struckS n k)) ∧ w = w' := by
  have hw1 : IntKind.i64.wrap (n + 2) = n + 2 := wrap_in (by omega) (by omega)
  have hw2 : IntKind.i64.wrap (n + 2 - k) = n + 2 - k := wrap_in (by omega) (by omega)
  have h0 : 0 ≤ n + 2 - k := by omega
  have h3 : 0 ≤ (n + 2 - k) / 3 := Int.ediv_nonneg h0 (by decide)
  have h4 : (n + 2 - k) / 3 ≤ 1000000 := by omega
  have hw3 : IntKind.i64.wrap ((n + 2 - k) / 3) = (n + 2 - k) / 3 := wrap_in (by omega) (by omega)
  go_enter Tryd.func112, Tryd.ntmps112
  go_wp2
  go_ret
  exact ⟨rfl, rfl⟩
def eachS (B : ForgeV) (cool : Int) : Int := (B.hot - B.least) / cool + 1
def heatsS (B : ForgeV) (n cool : Int) : Int := (n + eachS B cool - 1) / eachS B cool
theorem eachS_bd {B : ForgeV} (g : B.Good) {cool : Int} (hc : 1 ≤ cool) : 1 ≤ eachS B cool ∧ eachS B cool ≤ 1501 := by
  have h1 := g.hot
  have h2 := g.least
  have h3 : 0 ≤ (B.hot - B.least) / cool := Int.ediv_nonneg (by omega) (by omega)
  have h4 : (B.hot - B.least) / cool ≤ B.hot - B.least := Int.ediv_le_self _ (by omega)
  unfold eachS
  omega
set_option maxRecDepth 100000 in
theorem heats_calls (B : ForgeV) (g : B.Good) (n cool : Int) (hn : 0 ≤ n ∧ n ≤ 300) (hc : 1 ≤ cool ∧ cool ≤ 300) (w : World) : Calls Tryd.prog 92 #[B.val, .int .i64 n, .int .i64 cool] w fun e w' => e = .returned (.int .i64 (heatsS B n cool)) ∧ Below w.heap.size w w' := by
  have h1 := g.hot
  have h2 := g.least
  have hw1 : IntKind.i64.wrap (B.hot - B.least) = B.hot - B.least := wrap_in (by omega) (by omega)
  have h0 : 0 ≤ B.hot - B.least := by omega
  have hc0 : ¬ cool = 0 := by omega
  have h3 : 0 ≤ (B.hot - B.least) / cool := Int.ediv_nonneg h0 (by omega)
  have h4 : (B.hot - B.least) / cool ≤ B.hot - B.least := Int.ediv_le_self _ h0
  have he := eachS_bd g hc.1
  have hee : Hid (heatsS B n cool = (n + eachS B cool - 1) / eachS B cool) := Lib.hid rfl
  have hq : Hid (eachS B cool = (B.hot - B.least) / cool + 1) := Lib.hid rfl
  have hw2 : IntKind.i64.wrap ((B.hot - B.least).tdiv cool) = (B.hot - B.least) / cool := by rw [Int.tdiv_eq_ediv_of_nonneg h0]; exact wrap_in (by omega) (by omega)
  have hw3 : IntKind.i64.wrap ((B.hot - B.least) / cool + 1) = eachS B cool := by rw [hq.out]; exact wrap_in (by omega) (by omega)
  have hw4 : IntKind.i64.wrap (n + eachS B cool) = n + eachS B cool := wrap_in (by omega) (by omega)
  have hw5 : IntKind.i64.wrap (n + eachS B cool - 1) = n + eachS B cool - 1 := wrap_in (by omega) (by omega)
  have hz : ¬ eachS B cool = 0 := by omega
  have h6 : 0 ≤ n + eachS B cool - 1 := by omega
  have h7 : 0 ≤ (n + eachS B cool - 1) / eachS B cool := Int.ediv_nonneg h6 (by omega)
  have h8 : (n + eachS B cool - 1) / eachS B cool ≤ n + eachS B cool - 1 := Int.ediv_le_self _ h6
  have hw6 : IntKind.i64.wrap ((n + eachS B cool - 1).tdiv (eachS B cool)) = (n + eachS B cool - 1) / eachS B cool := by rw [Int.tdiv_eq_ediv_of_nonneg h6]; exact wrap_in (by omega) (by omega)
  generalize eachS B cool = each at *
  clear g h1 h2 hn h4 he h8 h7
  unfold ForgeV.val ForgeV.cells
  go_enter Tryd.func92, Tryd.ntmps92
  go_wp2
  go_ret
  exact ⟨by rw [hee.out]; rfl, (Below.refl _ _).alloc (Nat.le_refl _) _⟩
end
end Go.Proofs.YtgfbfbfajnfbjaaDoor
