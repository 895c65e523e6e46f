import Derived.Test.YtljikigmfkfkiaaDoorBN
namespace Go.Proofs.YtljikigmfkfkiaaDoor
open Go.RowKit Go.Shelf
attribute [local go_sem] Oper.semAt_some
set_option linter.unusedSimpArgs false
set_option linter.unusedVariables false

theorem lastL_mem (B : BookV) (path : List Int) : ∀ k (x : Int), x ∈ lastL B path k ↔ ∃ j : Nat, j < k ∧ x = (j : Int) ∧ 0 < lastAt B path B.players.length j := by
  intro k x
  unfold lastL
  rw [List.mem_map]
  constructor
  · rintro ⟨j, hj, rfl⟩
    rw [List.mem_filter, List.mem_range, decide_eq_true_eq] at hj
    exact ⟨j, hj.1, rfl, hj.2⟩
  · rintro ⟨j, h1, rfl, h2⟩
    exact ⟨j, by rw [List.mem_filter, List.mem_range, decide_eq_true_eq]; exact ⟨h1, h2⟩, rfl⟩
theorem gi_mem {l : List Int} {i : Nat} (h : i < l.length) : gi l i ∈ l := by
  unfold gi; rw [List.getD_eq_getElem?_getD, List.getElem?_eq_getElem h]; exact List.getElem_mem h
/-- each number is greater than that before it, none below 0, none from a number on -/
def Rising (l : List Int) (below : Int) : Prop := (∀ i, i < l.length → 0 ≤ gi l i ∧ gi l i < below) ∧ ∀ i, i + 1 < l.length → gi l i < gi l (i + 1)
theorem lastL_rising (B : BookV) (path : List Int) : ∀ k : Nat, Rising (lastL B path k) k
  | 0 => ⟨fun i h => by simp [lastL] at h, fun i h => by simp [lastL] at h⟩
  | k + 1 => by
    obtain ⟨h1, h2⟩ := lastL_rising B path k
    rw [lastL_succ]
    by_cases hp : 0 < lastAt B path B.players.length k
    · simp only [hp, decide_true, cond_true]
      constructor
      · intro i hi
        rw [List.length_append] at hi
        by_cases hl : i < (lastL B path k).length
        · rw [gi_snoc_lt _ _ _ hl]; have := h1 i hl; omega
        · have : i = (lastL B path k).length := by simp at hi; omega
          rw [this, gi_snoc_at]; omega
      · intro i hi
        rw [List.length_append] at hi
        simp at hi
        rw [gi_snoc_lt _ _ _ (by omega)]
        by_cases hl : i + 1 < (lastL B path k).length
        · rw [gi_snoc_lt _ _ _ hl]; exact h2 i hl
        · have : i + 1 = (lastL B path k).length := by omega
          rw [this, gi_snoc_at]
          have := h1 i (by omega); omega
    · simp only [hp, decide_false, cond_false, List.append_nil]
      exact ⟨fun i hi => by have := h1 i hi; omega, h2⟩
set_option maxRecDepth 100000 in
set_option maxHeartbeats 2000000 in
theorem Grows_true (A : Option Addr) (c : Nat) (l : List Int) (n : Int) (w : World) (hp : IntsAt w A l) (hr : Rising l n) :
    Calls Tryd.prog 45 #[.slice A l.length c, .int .i64 n] w fun e w' => e = .returned (.bool true) ∧ w = w' := by
  rcases Nat.eq_zero_or_pos l.length with h0 | h0
  · have hz : ¬ (0 : Int) < l.length := by omega
    clear hr hp h0
    go_enter Tryd.func45, Tryd.ntmps45
    go_wp2
    refine wp_loop_rounds 1 ?_
    rw [rounds_succ]
    go_wp2
    go_ret
    exact ⟨rfl, rfl⟩
  · obtain ⟨b, o, rfl, hc⟩ := hp.2.resolve_left (by intro e; rw [e] at h0; simp at h0)
    have hle := hp.1
    have Hc := Lib.hid hc
    have Hr := Lib.hid hr
    clear hc hr hp h0
    go_enter Tryd.func45, Tryd.ntmps45
    go_wp2
    go_loop [6, 5] (fun i s => ∃ k : Nat, k ≤ l.length ∧ i = .int .i64 k ∧ ∃ x : Int, s = .int .i64 x ∧ (k < l.length → x < gi l k)) (fun i _ => l.length - (intOf i).toNat)
    case atStart => exact ⟨0, Nat.zero_le _, rfl, -1, rfl, fun h => by have := Hr.out.1 0 h; omega⟩
    case round =>
      obtain ⟨k, hk, rfl, x, rfl, hx⟩ := hrel
      have Hx := Lib.hid hx
      clear hx
      by_cases hlt : k < l.length
      · have hck := Hc.out k hlt
        have bk := World.block_lt_of_cell? _ _ hck
        have hki : (k : Int) < l.length := by omega
        simp only at bk
        have h1 : x < gi l k := Hx.out hlt
        have h2 := Hr.out.1 k hlt
        obtain ⟨h20, h21⟩ := h2
        have h3 : decide (gi l k ≤ x) = false := by rw [decide_eq_false_iff_not]; omega
        have h4 : decide (n ≤ gi l k) = false := by rw [decide_eq_false_iff_not]; omega
        go_wp2
        go_round
        case rel => exact ⟨k + 1, by omega, by go_num, _, rfl, fun h => Hr.out.2 k h⟩
        case measure => simp [intOf]; omega
      · obtain rfl : k = l.length := by omega
        go_wp2
        go_ret
        exact ⟨rfl, rfl⟩
set_option maxRecDepth 100000 in
set_option maxHeartbeats 2000000 in
theorem Where_calls (A : Option Addr) (c : Nat) (l : List Int) (n : Int) (w : World) (hp : IntsAt w A l) :
    Calls Tryd.prog 46 #[.slice A l.length c, .int .i64 n] w fun e w' => (∃ r : Int, e = .returned (.int .i64 r) ∧ ((0 ≤ r ∧ n ∈ l) ∨ (r < 0 ∧ n ∉ l))) ∧ w = w' := by
  rcases Nat.eq_zero_or_pos l.length with h0 | h0
  · have hz : ¬ (0 : Int) < l.length := by omega
    have hnil := Lib.hid (List.eq_nil_of_length_eq_zero h0)
    clear hp h0
    go_enter Tryd.func46, Tryd.ntmps46
    go_wp2
    refine wp_loop_rounds 1 ?_
    rw [rounds_succ]
    go_wp2
    go_ret
    exact ⟨⟨-1, rfl, .inr ⟨by omega, by rw [hnil.out]; simp⟩⟩, rfl⟩
  · obtain ⟨b, o, rfl, hc⟩ := hp.2.resolve_left (by intro e; rw [e] at h0; simp at h0)
    have hle := hp.1
    have Hc := Lib.hid hc
    clear hc hp h0
    go_enter Tryd.func46, Tryd.ntmps46
    go_wp2
    go_loop [5] (fun i => ∃ k : Nat, k ≤ l.length ∧ i = .int .i64 k ∧ ∀ j, j < k → gi l j ≠ n) (fun i => l.length - (intOf i).toNat)
    case atStart => exact ⟨0, Nat.zero_le _, rfl, fun j hj => absurd hj (by omega)⟩
    case round =>
      obtain ⟨k, hk, rfl, hx⟩ := hrel
      have Hx := Lib.hid hx
      clear hx
      by_cases hlt : k < l.length
      · have hck := Hc.out k hlt
        have bk := World.block_lt_of_cell? _ _ hck
        have hki : (k : Int) < l.length := by omega
        simp only at bk
        by_cases he : gi l k = n
        · have hbe : (gi l k == n) = true := by rw [beq_iff_eq]; exact he
          have Hm : Hid (n ∈ l) := by unfold Hid; rw [← he]; exact gi_mem hlt
          clear he
          go_wp2
          go_ret
          exact ⟨⟨_, rfl, .inl ⟨by omega, Hm.out⟩⟩, rfl⟩
        · have hbe : (gi l k == n) = false := by rw [beq_eq_false_iff_ne]; exact he
          have He := Lib.hid he
          clear he
          go_wp2
          go_round
          case rel => exact ⟨k + 1, by omega, by go_num, fun j hj => (by rcases Nat.lt_or_eq_of_le (Nat.le_of_lt_succ hj) with h | h; exact Hx.out j h; rw [h]; exact He.out)⟩
          case measure => simp [intOf]; omega
      · obtain rfl : k = l.length := by omega
        have Hno : Hid (n ∉ l) := by
          intro hm
          obtain ⟨j, hj, e⟩ := List.mem_iff_getElem.1 hm
          exact Hx.out j hj (by unfold gi; rw [List.getD_eq_getElem?_getD, List.getElem?_eq_getElem hj]; exact e)
        go_wp2
        go_ret
        exact ⟨⟨-1, rfl, .inr ⟨by omega, Hno.out⟩⟩, rfl⟩
end Go.Proofs.YtljikigmfkfkiaaDoor
