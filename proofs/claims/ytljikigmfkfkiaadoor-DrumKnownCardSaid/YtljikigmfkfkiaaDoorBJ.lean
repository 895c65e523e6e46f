import Derived.Test.YtljikigmfkfkiaaDoorAX
import Derived.Test.YtljikigmfkfkiaaDoorBB
import Derived.Test.YtljikigmfkfkiaaDoorBC
import Derived.Test.YtljikigmfkfkiaaDoorBE
import Derived.Test.YtljikigmfkfkiaaDoorBG
namespace Go.Proofs.YtljikigmfkfkiaaDoor
open Go.RowKit Go.Shelf
attribute [local go_sem] Oper.semAt_some
set_option linter.unusedSimpArgs false
set_option linter.unusedVariables false

theorem before_at {a b : List Int} {k : Nat} (h : a = b ∨ Before b a) (he : ∀ j, j < k → gi a j = gi b j) (hd : gi a k ≠ gi b k) : gi b k < gi a k := by
  rcases h with rfl | ⟨i, h1, h2⟩
  · exact absurd rfl hd
  · have : i = k := by
      rcases Nat.lt_trichotomy i k with h | h | h
      · have := he i h; omega
      · exact h
      · exact absurd (h1 k h).symm hd
    subst this; exact h2
set_option maxRecDepth 100000 in
set_option maxHeartbeats 2000000 in
theorem Sooner_not (A : Option Addr) (c : Nat) (a : List Int) (A' : Option Addr) (c' : Nat) (b : List Int) (w : World) (ha : IntsAt w A a) (hb : IntsAt w A' b) (hl : a.length = b.length) (h : a = b ∨ Before b a) :
    Calls Tryd.prog 51 #[.slice A a.length c, .slice A' b.length c'] w fun e w' => e = .returned (.bool false) ∧ Below w.heap.size w w' := by
  rcases Nat.eq_zero_or_pos a.length with h0 | h0
  · have hz : ¬ (0 : Int) < a.length := by omega
    have Hz : Hid (¬ a.length < b.length) := by unfold Hid; omega
    clear h hl h0
    go_enter Tryd.func51, Tryd.ntmps51
    go_wp2
    refine wp_loop_rounds 1 ?_
    rw [rounds_succ]
    go_wp2
    go_ret
    exact ⟨by have := Hz.out; simp [this], Below.refl _ _⟩
  · obtain ⟨xb, xo, rfl, hxc⟩ := ha.2.resolve_left (by intro e; rw [e] at h0; simp at h0)
    obtain ⟨yb, yo, rfl, hyc⟩ := hb.2.resolve_left (by intro e; rw [e] at hl; rw [hl] at h0; simp at h0)
    have hle := ha.1
    have hlb := hb.1
    have Hxc := Lib.hid hxc
    have Hyc := Lib.hid hyc
    have Hl := Lib.hid hl
    have Hh := Lib.hid h
    have Hz : Hid (¬ a.length < b.length) := by unfold Hid; omega
    clear hl h0 ha hb hxc hyc h
    go_enter Tryd.func51, Tryd.ntmps51
    go_wp2
    go_loopg [5] a.length (fun gk i wr => ∃ k : Nat, k ≤ a.length ∧ gk = a.length - k ∧ i = .int .i64 k ∧ (∀ j, j < k → gi a j = gi b j) ∧ Below w.heap.size w wr)
    case atStart => exact ⟨0, Nat.zero_le _, rfl, rfl, fun j hj => absurd hj (by omega), Below.refl _ _⟩
    case round =>
      obtain ⟨k, hk, hgk, rfl, hall, hB⟩ := hrel
      have Hgk := Lib.hid hgk
      have Hall := Lib.hid hall
      have HB := Lib.hid hB
      clear hgk hall
      by_cases hlt : k < a.length
      · have ck := cell_below hB (Hxc.out k hlt)
        have dk := cell_below hB (Hyc.out k (by have := Hl.out; omega))
        have b1 := World.block_lt_of_cell? _ _ ck
        have b2 := World.block_lt_of_cell? _ _ dk
        have hki : (k : Int) < a.length := by omega
        have hkj : (k : Int) < b.length := by have := Hl.out; omega
        simp only at b1 b2
        by_cases hd : gi a k = gi b k
        · have hbe : (gi a k != gi b k) = false := by rw [bne_eq_false_iff_eq]; exact hd
          have Hd := Lib.hid hd
          clear hd
          go_wp2
          go_quiet (fail)
          go_wp2
          go_roundg (a.length - (k + 1))
          case measure => have := Hgk.out; omega
          case rel => exact ⟨k + 1, by omega, rfl, by go_num, fun j hj => (by rcases Nat.lt_or_eq_of_le (Nat.le_of_lt_succ hj) with h | h; exact Hall.out j h; rw [h]; exact Hd.out), below_drewN HB.out _⟩
        · have hbe : (gi a k != gi b k) = true := by rw [bne_iff_ne]; exact hd
          have Hnl : Hid (¬ gi a k < gi b k) := by unfold Hid; have := before_at Hh.out Hall.out hd; omega
          clear hd
          go_wp2
          go_quiet (fail)
          go_wp2
          go_quiet (fail)
          go_wp2
          go_ret
          exact ⟨by have := Hnl.out; simp [this], below_drewN (below_drewN HB.out _) _⟩
      · obtain rfl : k = a.length := by omega
        go_wp2
        go_ret
        exact ⟨by have := Hz.out; simp [this], HB.out⟩
theorem noneLate_iff {B : BookV} (g : B.Good) {path : List Int} (ip : IsPath B path) : noneLate B path = decide ((lastL B path 5).length = 0) := by
  have h0 : ∀ j, 0 ≤ lastAt B path B.players.length j := by
    intro j; unfold lastAt; split
    · exact (lateTo_bd g path _ true (g.late j (by assumption)) (fun k => (catchAt_bd g ip (by assumption) true k).1) _).1
    · omega
  have key : ∀ k, ((lastL B path k).length = 0 ↔ ∀ j, j < k → lastAt B path B.players.length j = 0) := by
    intro k
    induction k with
    | zero => simp [lastL]
    | succ k ih =>
      rw [lastL_succ, List.length_append]
      constructor
      · intro h j hj
        rcases Nat.lt_or_eq_of_le (Nat.le_of_lt_succ hj) with h2 | h2
        · exact ih.1 (by omega) j h2
        · subst h2
          have := h0 j
          by_cases hp : 0 < lastAt B path B.players.length j
          · simp [hp] at h
          · omega
      · intro h
        have h1 := ih.2 (fun j hj => h j (by omega))
        have h2 := h k (by omega)
        rw [h1, h2]; simp
  rw [Bool.eq_iff_iff, decide_eq_true_eq, key 5]
  unfold noneLate
  simp only [Bool.and_eq_true, decide_eq_true_eq]
  constructor
  · rintro ⟨h0, h1, h2, h3, h4⟩ j hj
    have : j = 0 ∨ j = 1 ∨ j = 2 ∨ j = 3 ∨ j = 4 := by omega
    rcases this with rfl | rfl | rfl | rfl | rfl <;> assumption
  · intro h; exact ⟨h 0 (by omega), h 1 (by omega), h 2 (by omega), h 3 (by omega), h 4 (by omega)⟩
end Go.Proofs.YtljikigmfkfkiaaDoor
