import Derived.Test.YtgfbfbfajnfbjaaDoorBF
import Derived.Test.YtgfbfbfajnfbjaaDoorBH
/- The law of heats: what it asks of the numbers of heats holds; plain arithmetic. -/
namespace Go.Proofs.YtgfbfbfajnfbjaaDoor
section
open Go.RowKit Go.Shelf
theorem ceil_le {n e x : Int} (he : 1 ≤ e) : (n + e - 1) / e ≤ x ↔ n ≤ x * e := by
  rw [← Int.lt_add_one_iff, Int.ediv_lt_iff_lt_mul (by omega), Int.add_mul]; omega
theorem le_ceil {n e : Int} (he : 1 ≤ e) : n ≤ (n + e - 1) / e * e := (ceil_le he).1 (Int.le_refl _)
theorem ceil_mono {n m e : Int} (he : 1 ≤ e) (h : n ≤ m) : (n + e - 1) / e ≤ (m + e - 1) / e := (ceil_le he).2 (Int.le_trans h (le_ceil he))
theorem ceil_sub {n m e : Int} (he : 1 ≤ e) : (n + m + e - 1) / e ≤ (n + e - 1) / e + (m + e - 1) / e :=
  (ceil_le he).2 (by rw [Int.add_mul]; exact Int.add_le_add (le_ceil he) (le_ceil he))
theorem ceil_nonneg {n e : Int} (he : 1 ≤ e) (hn : 0 ≤ n) : 0 ≤ (n + e - 1) / e := Int.ediv_nonneg (by omega) (by omega)
theorem ceil_self {n e : Int} (he : 1 ≤ e) (hn : 0 ≤ n) : (n + e - 1) / e ≤ n := (ceil_le he).2 (by
  have := Int.mul_le_mul_of_nonneg_left he hn; omega)
theorem ceil_pos {n e : Int} (he : 1 ≤ e) : 0 < (n + e - 1) / e ↔ 0 < n := by
  have := ceil_le (n := n) (x := 0) he
  rw [Int.zero_mul] at this
  omega
theorem ceil_anti {n e f : Int} (he : 1 ≤ e) (h : e ≤ f) (hn : 0 ≤ n) : (n + f - 1) / f ≤ (n + e - 1) / e :=
  (ceil_le (by omega)).2 (Int.le_trans (le_ceil he) (Int.mul_le_mul_of_nonneg_left h (ceil_nonneg he hn)))
theorem each_anti {B : ForgeV} (g : B.Good) : eachS B B.chi ≤ eachS B B.clo := by
  have h1 := g.cool
  have h2 := g.least
  unfold eachS
  have h3 : 0 ≤ (B.hot - B.least) / B.chi := Int.ediv_nonneg (by omega) (by omega)
  have h4 : (B.hot - B.least) / B.chi ≤ (B.hot - B.least) / B.clo := by
    rw [Int.le_ediv_iff_mul_le (by omega)]
    exact Int.le_trans (Int.mul_le_mul_of_nonneg_left (by omega) h3) (Int.ediv_mul_le _ (by omega))
  omega
structure HeatsOk (B : ForgeV) (i k : Int) : Prop where
  s : 0 ≤ hLo B i ∧ hLo B i ≤ hHi B i ∧ hHi B i ≤ i
  t : 0 ≤ hLo B k ∧ hLo B k ≤ hHi B k ∧ hHi B k ≤ k
  u : 0 ≤ hLo B (i + k) ∧ hLo B (i + k) ≤ hHi B (i + k) ∧ hHi B (i + k) ≤ i + k
  pos : 0 < hLo B i ↔ 0 < i
  hot : 0 < i → B.clo * ((i + hLo B i - 1) / hLo B i - 1) ≤ B.hot - B.least
  lo : hLo B i ≤ hLo B (i + k) ∧ hLo B k ≤ hLo B (i + k) ∧ hLo B (i + k) ≤ hLo B i + hLo B k
  hi : hHi B i ≤ hHi B (i + k) ∧ hHi B k ≤ hHi B (i + k) ∧ hHi B (i + k) ≤ hHi B i + hHi B k
theorem heats_ok {B : ForgeV} (g : B.Good) {i k : Int} (hi : 0 ≤ i) (hk : 0 ≤ k) : HeatsOk B i k := by
  have hc := g.cool
  have h1 := (eachS_bd g (cool := B.clo) (by omega)).1
  have h2 := (eachS_bd g (cool := B.chi) (by omega)).1
  have h3 := each_anti g
  have one : ∀ n : Int, 0 ≤ n → 0 ≤ hLo B n ∧ hLo B n ≤ hHi B n ∧ hHi B n ≤ n := fun n hn =>
    ⟨ceil_nonneg h1 hn, ceil_anti h2 h3 hn, ceil_self h2 hn⟩
  refine ⟨one i hi, one k hk, one (i + k) (by omega), ceil_pos h1, fun hp => ?_, ⟨ceil_mono h1 (by omega), ceil_mono h1 (by omega), ceil_sub h1⟩, ⟨ceil_mono h2 (by omega), ceil_mono h2 (by omega), ceil_sub h2⟩⟩
  have hs : 0 < hLo B i := (ceil_pos h1).2 hp
  have h4 : (i + hLo B i - 1) / hLo B i ≤ eachS B B.clo := (ceil_le (by omega)).2 (by rw [Int.mul_comm]; exact le_ceil h1)
  have h5 : B.clo * ((B.hot - B.least) / B.clo) ≤ B.hot - B.least := Int.mul_ediv_self_le (by omega)
  refine Int.le_trans (Int.mul_le_mul_of_nonneg_left ?_ (by omega)) h5
  unfold eachS at h4
  omega
end
end Go.Proofs.YtgfbfbfajnfbjaaDoor
