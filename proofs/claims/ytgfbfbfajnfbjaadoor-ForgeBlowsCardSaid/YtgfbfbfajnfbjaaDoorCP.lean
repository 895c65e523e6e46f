import Derived.Test.YtgfbfbfajnfbjaaDoorDE
import Derived.Test.YtgfbfbfajnfbjaaDoorAB
import Derived.Test.YtgfbfbfajnfbjaaDoorBI
namespace Go.Proofs.YtgfbfbfajnfbjaaDoor
section
open Go.RowKit Go.Shelf
attribute [local go_sem] Oper.semAt_some
set_option linter.unusedSimpArgs false
set_option linter.unusedVariables false
/-! The reference's heats, blow by blow. -/
/-- behind some blows: h heats, and how hot the disc is; r is how many blows of the last heat were struck (0: the next one needs a heat) -/
structure HeatAt (B : ForgeV) (c : Int) (k : Nat) (h x : Int) : Prop where
  ex : ∃ q r : Int, 0 ≤ q ∧ 0 ≤ r ∧ r < eachS B c ∧ (k : Int) = q * eachS B c + r ∧ ((r = 0 ∧ h = q ∧ x < B.least) ∨ (0 < r ∧ h = q + 1 ∧ x = B.hot - c * r ∧ B.least ≤ x))
  bd : -301 ≤ x ∧ x ≤ 1500
  hb : 0 ≤ h ∧ h ≤ k
theorem heatAt_zero {B : ForgeV} (g : B.Good) {c : Int} (hc : 1 ≤ c ∧ c ≤ 300) : HeatAt B c 0 0 (-1) := by
  have hh := g.hot
  have hl := g.least
  have he : 0 ≤ (B.hot - B.least) / c := Int.ediv_nonneg (by omega) (by omega)
  exact ⟨⟨0, 0, Int.le_refl _, Int.le_refl _, by unfold eachS; omega, by simp, .inl ⟨rfl, rfl, by omega⟩⟩, by omega, by omega⟩
theorem heatAt_fin {B : ForgeV} (g : B.Good) {c : Int} (hc : 1 ≤ c ∧ c ≤ 300) {k : Nat} {h x : Int} (hh : HeatAt B c k h x) : h = ((k : Int) + eachS B c - 1) / eachS B c := by
  obtain ⟨q, r, hq, hr, hre, hk, hx⟩ := hh.ex
  have he : 0 ≤ (B.hot - B.least) / c := Int.ediv_nonneg (by have := g.least; omega) (by omega)
  have e1 : 1 ≤ eachS B c := by unfold eachS; omega
  generalize eachS B c = e at *
  rw [hk]
  rcases hx with ⟨h1, h2, _⟩ | ⟨h1, h2, _⟩
  · subst h1
    rw [h2, show q * e + 0 + e - 1 = (e - 1) + q * e by omega, Int.add_mul_ediv_right _ _ (by omega), Int.ediv_eq_zero_of_lt (by omega) (by omega)]
    omega
  · rw [h2, show q * e + r + e - 1 = (r - 1) + (q + 1) * e by rw [Int.add_mul]; omega, Int.add_mul_ediv_right _ _ (by omega), Int.ediv_eq_zero_of_lt (by omega) (by omega)]
    omega
theorem heatAt_step {B : ForgeV} (g : B.Good) {c : Int} (hc : 1 ≤ c ∧ c ≤ 300) {k : Nat} {h x : Int} (hh : HeatAt B c k h x) : HeatAt B c (k + 1) (if x < B.least then h + 1 else h) ((if x < B.least then B.hot else x) - c) := by
  have g1 := g.hot
  have g2 := g.least
  obtain ⟨q, r, hq, hr, hre, hk, hx⟩ := hh.ex
  have hb := hh.bd
  have hhb := hh.hb
  have d1 : c * (eachS B c - 1) ≤ B.hot - B.least := by unfold eachS; rw [Int.add_sub_cancel]; exact Int.mul_ediv_self_le (by omega)
  have d2 : B.hot - B.least < c * eachS B c := by unfold eachS; have := Int.lt_mul_ediv_self_add (x := B.hot - B.least) (k := c) (by omega); rw [Int.mul_add, Int.mul_one]; omega
  have e1 : 1 ≤ eachS B c := by omega
  generalize heq : eachS B c = e at *
  rcases hx with ⟨h1, h2, h3⟩ | ⟨h1, h2, h3, h4⟩
  · rw [if_pos h3, if_pos h3]
    refine ⟨?_, by omega, by omega⟩
    simp only [heq]
    by_cases he : e = 1
    · refine ⟨q + 1, 0, by omega, Int.le_refl _, by omega, by subst he; simp at hk ⊢; omega, .inl ⟨rfl, by omega, ?_⟩⟩
      rw [he, Int.mul_one] at d2; omega
    · have m1 : c * 1 ≤ c * (e - 1) := Int.mul_le_mul_of_nonneg_left (by omega) (by omega)
      exact ⟨q, 1, hq, by omega, by omega, by rw [h1] at hk; push_cast; omega, .inr ⟨by omega, by omega, by omega, by omega⟩⟩
  · rw [if_neg (by omega), if_neg (by omega)]
    refine ⟨?_, by omega, by omega⟩
    simp only [heq]
    have m0 : c * (r + 1) = c * r + c := by rw [Int.mul_add, Int.mul_one]
    by_cases he : r + 1 = e
    · refine ⟨q + 1, 0, by omega, Int.le_refl _, by omega, by rw [Int.add_mul, Int.one_mul]; push_cast; omega, .inl ⟨rfl, h2, ?_⟩⟩
      rw [← he, m0] at d2; omega
    · have m1 : c * (r + 1) ≤ c * (e - 1) := Int.mul_le_mul_of_nonneg_left (by omega) (by omega)
      exact ⟨q, r + 1, hq, by omega, by omega, by push_cast; omega, .inr ⟨by omega, h2, by omega, by omega⟩⟩
set_option maxRecDepth 100000 in
set_option maxHeartbeats 4000000 in
theorem refStruck_calls (B : ForgeV) (g : B.Good) (n : Int) (hn : 0 ≤ n ∧ n ≤ 300) (c : Int) (hc : 1 ≤ c ∧ c ≤ 300) (w : World) :
    Calls Tryd.prog 93 #[B.val, .int .i64 n, .int .i64 c] w fun e w' => e = .returned (.int .i64 ((n + eachS B c - 1) / eachS B c)) ∧ Below w.heap.size w w' := by
  obtain ⟨N, rfl⟩ : ∃ N : Nat, n = N := ⟨n.toNat, by omega⟩
  have Hg := Lib.hid g
  have Hc := Lib.hid hc
  have H0 := Lib.hid (heatAt_zero g hc)
  have k3 := BoxAt.new w B.cells 28
  have H1 : Below w.heap.size w (w.alloc (.cells B.cells 28)) := (Below.refl _ _).alloc (Nat.le_refl _) _
  have hcells : B.val = .agg B.cells := rfl
  rw [hcells]
  unfold ForgeV.cells at k3 H1 ⊢
  have hgh := g.hot
  have hgl := g.least
  clear g
  go_enter Tryd.func93, Tryd.ntmps93
  go_upto_region 1 with fail
  generalize w.alloc _ = W1 at *
  have HF := Lib.hid H1
  obtain ⟨c3, f3, l3⟩ := k3
  clear H1
  go_wp2
  go_loop [9, 7, 8] (fun i h x => ∃ k : Nat, ∃ hv xv : Int, k ≤ N ∧ i = .int .i64 k ∧ h = .int .i64 hv ∧ x = .int .i64 xv ∧ HeatAt B c k hv xv) (fun i _ _ => N - (intOf i).toNat)
  case atStart => exact ⟨0, 0, -1, Nat.zero_le _, rfl, rfl, rfl, H0.out⟩
  case round =>
    obtain ⟨k, hv, xv, hk, rfl, rfl, rfl, hh⟩ := hrel
    have hbd := hh.bd
    have hhb := hh.hb
    have Hh := Lib.hid hh
    clear hh
    by_cases hlt : k < N
    · have hki : (k : Int) < N := by omega
      have hw1 : IntKind.i64.wrap (hv + 1) = hv + 1 := wrap_in (by omega) (by omega)
      have hw2 : IntKind.i64.wrap (B.hot - c) = B.hot - c := wrap_in (by omega) (by omega)
      have hw3 : IntKind.i64.wrap (xv - c) = xv - c := wrap_in (by omega) (by omega)
      have hst := heatAt_step Hg.out Hc.out Hh.out
      by_cases hl : xv < B.least
      · rw [if_pos hl, if_pos hl] at hst
        have Hst := Lib.hid hst
        clear hst
        go_wp2
        go_round
        case rel => exact ⟨k + 1, hv + 1, B.hot - c, by omega, by go_num, rfl, rfl, Hst.out⟩
        case measure => simp [intOf]; omega
      · rw [if_neg hl, if_neg hl] at hst
        have Hst := Lib.hid hst
        clear hst
        go_wp2
        go_round
        case rel => exact ⟨k + 1, hv, xv - c, by omega, by go_num, rfl, rfl, Hst.out⟩
        case measure => simp [intOf]; omega
    · obtain rfl : k = N := by omega
      have Hf := Lib.hid (heatAt_fin Hg.out Hc.out Hh.out)
      go_wp2
      go_ret
      exact ⟨by rw [← Hf.out]; rfl, HF.out⟩
end
end Go.Proofs.YtgfbfbfajnfbjaaDoor
