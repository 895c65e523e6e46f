import Derived.Test.YtgfbfbfajnfbjaaDoorN
namespace Go.Proofs.YtgfbfbfajnfbjaaDoor
section
open Go.RowKit Go.Shelf
attribute [local go_sem] Oper.semAt_some
set_option linter.unusedSimpArgs false
set_option linter.unusedVariables false
def pad3 (m : List Int) : Array Value := #[.int .i64 (gi m 0), .int .i64 (gi m 1), .int .i64 (gi m 2)]
theorem idx3_0 (x0 x1 x2 : Int) (w : World) : Sem.run Tryd.prog (Instr.index 108 (.agg #[.int .i64 x0, .int .i64 x1, .int .i64 x2]) (.int .i64 0)) w = .ok (.int .i64 x0) w := by kernel_rfl
theorem idx3_1 (x0 x1 x2 : Int) (w : World) : Sem.run Tryd.prog (Instr.index 108 (.agg #[.int .i64 x0, .int .i64 x1, .int .i64 x2]) (.int .i64 1)) w = .ok (.int .i64 x1) w := by kernel_rfl
theorem idx3_2 (x0 x1 x2 : Int) (w : World) : Sem.run Tryd.prog (Instr.index 108 (.agg #[.int .i64 x0, .int .i64 x1, .int .i64 x2]) (.int .i64 2)) w = .ok (.int .i64 x2) w := by kernel_rfl
theorem pad3_index (m : List Int) (k : Nat) (h : k < 3) (w : World) : Sem.run Tryd.prog (Instr.index 108 (.agg #[.int .i64 (gi m 0), .int .i64 (gi m 1), .int .i64 (gi m 2)]) (.int .i64 k)) w = .ok (.int .i64 (gi m k)) w := by
  have : k = 0 ∨ k = 1 ∨ k = 2 := by omega
  rcases this with rfl | rfl | rfl
  · exact idx3_0 _ _ _ w
  · exact idx3_1 _ _ _ w
  · exact idx3_2 _ _ _ w
def afterTo (B : ForgeV) (x : List Int) (n : Int) : Nat → Int
  | 0 => B.thick
  | k + 1 => afterTo B x n k - gi x k * struckS n k
theorem afterTo_three (B : ForgeV) (x : List Int) (n : Int) : afterTo B x n 3 = afterS B x n := rfl
theorem struckS_bd {n : Int} (hn : 0 ≤ n ∧ n ≤ 300) {k : Nat} (hk : k < 3) : 0 ≤ struckS n k ∧ struckS n k ≤ 101 := by
  unfold struckS
  omega
theorem mul_bd {x n : Int} (hx : 0 ≤ x ∧ x ≤ 20) (hs : 0 ≤ n ∧ n ≤ 101) : 0 ≤ x * n ∧ x * n ≤ 2020 :=
  ⟨Int.mul_nonneg hx.1 hs.1, Int.mul_le_mul hx.2 hs.2 hs.1 (by decide)⟩
theorem afterTo_bd {B : ForgeV} (g : B.Good) {x : List Int} (hx : ∀ k, 0 ≤ gi x k ∧ gi x k ≤ 20) {n : Int} (hn : 0 ≤ n ∧ n ≤ 300) : ∀ k : Nat, k ≤ 3 → -(2020 * k) ≤ afterTo B x n k ∧ afterTo B x n k ≤ 3000
  | 0, _ => by have := g.thick; simp only [afterTo]; omega
  | k + 1, hk => by
    have h1 := afterTo_bd g hx hn k (by omega)
    have h2 := mul_bd (hx k) (struckS_bd hn (show k < 3 by omega))
    simp only [afterTo, Int.natCast_add]
    omega
set_option maxRecDepth 100000 in
theorem after_calls (B : ForgeV) (g : B.Good) (x : List Int) (hx : ∀ k, 0 ≤ gi x k ∧ gi x k ≤ 20) (n : Int) (hn : 0 ≤ n ∧ n ≤ 300) (w : World) :
    Calls Tryd.prog 107 #[B.val, .agg (pad3 x), .int .i64 n] w fun e w' => e = .returned (.int .i64 (afterS B x n)) ∧ Below w.heap.size w w' := by
  have H2 : Below w.heap.size w ((w.alloc (.cells B.cells 87)).alloc (.cells (pad3 x) 108)) := ((Below.refl _ _).alloc (Nat.le_refl _) _).alloc (by simp) _
  have HX := Lib.hid hx
  have Hg := Lib.hid g
  have Hn := Lib.hid hn
  clear hx g hn
  unfold ForgeV.val
  unfold ForgeV.cells pad3 at H2 ⊢
  go_enter Tryd.func107, Tryd.ntmps107
  go_upto_block 0 with (fail)
  have HH := Lib.hid H2
  generalize (w.alloc _).alloc _ = W at *
  clear H2
  go_wp2
  go_loop [14, 7] (fun i s => ∃ k : Nat, k ≤ 3 ∧ i = .int .i64 k ∧ s = .int .i64 (afterTo B x n k)) (fun i _ => 3 - (intOf i).toNat)
  case atStart => exact ⟨0, Nat.zero_le _, rfl, rfl⟩
  case round =>
    obtain ⟨k, hk, rfl, rfl⟩ := hrel
    by_cases hlt : k < 3
    · have hki : (k : Int) < 3 := by omega
      have hix := fun w => pad3_index x k hlt w
      have hs : Hid (afterTo B x n (k + 1) = afterTo B x n k - gi x k * struckS n k) := Lib.hid rfl
      have b1 := afterTo_bd Hg.out HX.out Hn.out k (by omega)
      have b2 := mul_bd (HX.out k) (struckS_bd Hn.out hlt)
      have hw1 : IntKind.i64.wrap (gi x k * struckS n k) = gi x k * struckS n k := wrap_in (by omega) (by omega)
      have hw2 : IntKind.i64.wrap (afterTo B x n k - gi x k * struckS n k) = afterTo B x n k - gi x k * struckS n k := wrap_in (by omega) (by omega)
      have Hk := Lib.hid hk
      clear b1 b2
      go_wp2_with (go_at_call 112; refine (struck_calls _ _ Hn.out (by omega) _).mono ?_; rintro e w' ⟨rfl, rfl⟩)
      go_round
      case rel => exact ⟨k + 1, by omega, by go_num, by rw [hs.out]⟩
      case measure => simp [intOf]; omega
    · obtain rfl : k = 3 := by omega
      go_wp2
      go_ret
      exact ⟨rfl, HH.out⟩
end
end Go.Proofs.YtgfbfbfajnfbjaaDoor
