import Derived.Test.YtljikigmfkfkiaaDoorAM
namespace Go.Proofs.YtljikigmfkfkiaaDoor
open Go.RowKit Go.Shelf
attribute [local go_sem] Oper.semAt_some
set_option linter.unusedSimpArgs false
set_option linter.unusedVariables false

/-! Sets of densities as bits. -/
def maskZ (p : Nat → Bool) : Int := (bif p 0 then 1 else 0) + (bif p 1 then 2 else 0) + (bif p 2 then 4 else 0) + (bif p 3 then 8 else 0)
def pw (d : Nat) : Int := bif d == 0 then 1 else bif d == 1 then 2 else bif d == 2 then 4 else 8
theorem shl_pw (d : Nat) (h : d < 4) (w : World) : Sem.run Tryd.prog (binOp BinOp.shl 3 (.int .i64 1) (.int .i64 (d : Int))) w = .ok (.int .i64 (pw d)) w := by
  have : d = 0 ∨ d = 1 ∨ d = 2 ∨ d = 3 := by omega
  rcases this with rfl | rfl | rfl | rfl <;> (show _ = _; kernel_rfl)
theorem or_pw (p : Nat → Bool) (d : Nat) (h : d < 4) (w : World) : Sem.run Tryd.prog (binOp BinOp.or 3 (.int .i64 (maskZ p)) (.int .i64 (pw d))) w = .ok (.int .i64 (maskZ fun k => p k || decide (k = d))) w := by
  have : d = 0 ∨ d = 1 ∨ d = 2 ∨ d = 3 := by omega
  unfold maskZ
  simp only
  generalize p 0 = a0
  generalize p 1 = a1
  generalize p 2 = a2
  generalize p 3 = a3
  rcases this with rfl | rfl | rfl | rfl <;> cases a0 <;> cases a1 <;> cases a2 <;> cases a3 <;> (show _ = _; kernel_rfl)
theorem maskZ_zero (p : Nat → Bool) : maskZ p = 0 ↔ ((List.range 4).filter p).map Int.ofNat = [] := by
  rw [List.map_eq_nil_iff, List.filter_eq_nil_iff]
  unfold maskZ
  constructor
  · intro h k hk
    rw [List.mem_range] at hk
    have : k = 0 ∨ k = 1 ∨ k = 2 ∨ k = 3 := by omega
    generalize h0 : p 0 = a0 at *
    generalize h1 : p 1 = a1 at *
    generalize h2 : p 2 = a2 at *
    generalize h3 : p 3 = a3 at *
    rcases this with rfl | rfl | rfl | rfl <;> cases a0 <;> cases a1 <;> cases a2 <;> cases a3 <;> simp_all
  · intro h
    have h0 := h 0 (by simp)
    have h1 := h 1 (by simp)
    have h2 := h 2 (by simp)
    have h3 := h 3 (by simp)
    simp [h0, h1, h2, h3]
set_option maxRecDepth 100000 in
set_option maxHeartbeats 4000000 in
theorem Bit_calls (p : Nat → Bool) (k : Nat) (hk : k < 4) (w : World) : Calls Tryd.prog 97 #[.int .i64 (maskZ p), .int .i64 (k : Int)] w fun e w' => e = .returned (.bool (p k)) ∧ w = w' := by
  have h4 : k = 0 ∨ k = 1 ∨ k = 2 ∨ k = 3 := by omega
  unfold maskZ
  generalize h0 : p 0 = a0
  generalize h1 : p 1 = a1
  generalize h2 : p 2 = a2
  generalize h3 : p 3 = a3
  rcases h4 with rfl | rfl | rfl | rfl
  all_goals
    first | rw [h0] | rw [h1] | rw [h2] | rw [h3]
    clear h0 h1 h2 h3 hk
    cases a0 <;> cases a1 <;> cases a2 <;> cases a3
  all_goals
    show Calls Tryd.prog 97 #[.int .i64 _, .int .i64 _] w _
    simp only [cond_true, cond_false, Int.add_zero, Int.zero_add, Int.reduceAdd]
    go_enter Tryd.func97, Tryd.ntmps97
    go_wp2
    go_ret
    exact ⟨rfl, rfl⟩
def memsTo (p : Nat → Bool) (k : Nat) : List Int := ((List.range k).filter p).map Int.ofNat
theorem memsTo_succ (p : Nat → Bool) (k : Nat) : memsTo p (k + 1) = memsTo p k ++ bif p k then [(k : Int)] else [] := by
  unfold memsTo
  rw [List.range_succ, List.filter_append, List.map_append]
  cases h : p k <;> simp_all
theorem memsTo_le (p : Nat → Bool) (k : Nat) : (memsTo p k).length ≤ k := by
  unfold memsTo
  rw [List.length_map]
  exact Nat.le_trans (List.length_filter_le _ _) (by simp)
set_option maxRecDepth 100000 in
set_option maxHeartbeats 4000000 in
theorem Members_calls (p : Nat → Bool) (w : World) : Calls Tryd.prog 85 #[.int .i64 (maskZ p), .int .i64 4] w fun e w' => (∃ A c, e = .returned (.slice A (memsTo p 4).length c) ∧ IntsAt w' A (memsTo p 4)) ∧ Below w.heap.size w w' := by
  obtain ⟨mz, hmz⟩ : ∃ mz, mz = maskZ p := ⟨_, rfl⟩
  rw [← hmz]
  have Hmz := Lib.hid hmz
  clear hmz
  go_enter Tryd.func85, Tryd.ntmps85
  go_wp2
  go_loopg [6, 5] 4 (fun gk i v wr => ∃ k : Nat, k ≤ 4 ∧ gk = 4 - k ∧ i = .int .i64 k ∧ OwnInts wr w.heap.size v (memsTo p k) ∧ Below w.heap.size w wr)
  case atStart => exact ⟨0, Nat.zero_le _, rfl, rfl, OwnInts.nil _ _, Below.refl _ _⟩
  case round =>
    obtain ⟨k, hk, hgk, rfl, hown, hbe⟩ := hrel
    have Hgk := Lib.hid hgk
    have Hown := Lib.hid hown
    have Hbe := Lib.hid hbe
    clear hgk hown hbe
    by_cases hlt : k < 4
    · have hlt' : (k : Int) < 4 := by omega
      have hs := memsTo_succ p k
      go_wp2_with fail
      rw [Hmz.out]
      refine (Bit_calls p k hlt _).mono ?_
      rintro e w3 ⟨rfl, rfl⟩
      rw [← Hmz.out]
      cases hp : p k with
      | true =>
        rw [hp, cond_true] at hs
        have Hs := Lib.hid hs
        clear hs
        go_wp2_with (at_builtin; refine wpList_app1 _ rfl _ _ rfl w.heap.size _ _ rfl (Hown.out.alloc _) _ _ _ rfl (cell_new1 _ _ _) (by have := memsTo_le p k; omega) (by have := Hbe.out.size; simp; omega) ?_)
        intro v' w5 ho hb5 hsz _
        have Hho := Lib.hid ho
        have Hb5 := Lib.hid hb5
        clear ho hb5 hsz
        go_wp2
        go_roundg (4 - (k + 1))
        case measure => have := Hgk.out; omega
        case rel => exact ⟨k + 1, by omega, rfl, by go_num, by rw [Hs.out]; exact Hho.out, (Hbe.out.alloc Hbe.out.size _).trans Hb5.out⟩
      | false =>
        rw [hp, cond_false, List.append_nil] at hs
        have Hs := Lib.hid hs
        clear hs
        go_wp2
        go_roundg (4 - (k + 1))
        case measure => have := Hgk.out; omega
        case rel => exact ⟨k + 1, by omega, rfl, by go_num, by rw [Hs.out]; exact Hown.out, Hbe.out⟩
    · obtain rfl : k = 4 := by omega
      obtain ⟨A', c', rfl, hi', hc', hm', _, h0⟩ := Hown.out.reads
      have Hi' := Lib.hid hi'
      clear hi'
      go_wp2
      go_ret
      exact ⟨⟨A', c', rfl, Hi'.out⟩, Hbe.out⟩
set_option maxRecDepth 100000 in
set_option maxHeartbeats 4000000 in
theorem fits_calls (A : Option Addr) (c : Nat) (path : List Int) (A2 : Option Addr) (c2 : Nat) (heard : List Int) (w : World) (hp : IntsAt w A path) (hh : IntsAt w A2 heard) (hl : path.length = heard.length + 1) (h8 : path.length ≤ 8)
    (hr : ∀ k, 0 ≤ gi path k ∧ gi path k ≤ 3) :
    Calls Tryd.prog 84 #[.slice A path.length c, .slice A2 heard.length c2] w fun e w' => e = .returned (.bool (fitsTo path heard heard.length)) ∧ Below w.heap.size w w' := by
  obtain ⟨pb, po, rfl, hpc⟩ := hp.2.resolve_left (by intro e; rw [e] at hl; simp at hl)
  rcases Nat.eq_zero_or_pos heard.length with h0 | h0
  · have hz : ¬ (0 : Int) < heard.length := by omega
    have Hf : Hid (fitsTo path heard heard.length = true) := by unfold Hid; rw [h0]; rfl
    clear h0 hl hpc hp hh hr h8
    go_enter Tryd.func84, Tryd.ntmps84
    go_wp2
    refine wp_loop_rounds 1 ?_
    rw [rounds_succ]
    go_wp2
    go_ret
    exact ⟨(by rw [Hf.out]; rfl), Below.refl _ _⟩
  · obtain ⟨hb, ho, rfl, hhc⟩ := hh.2.resolve_left (by intro e; rw [e] at h0; simp at h0)
    have Hpc := Lib.hid hpc
    have Hhc := Lib.hid hhc
    have Hl := Lib.hid hl
    have Hr := Lib.hid hr
    have hl7 : heard.length ≤ 7 := by omega
    clear hl hpc hp hh hr hhc h0
    go_enter Tryd.func84, Tryd.ntmps84
    go_wp2
    go_loopg [5] heard.length (fun gk i wr => ∃ k : Nat, k ≤ heard.length ∧ gk = heard.length - k ∧ i = .int .i64 k ∧ fitsTo path heard k = true ∧ Below w.heap.size w wr)
    case atStart => exact ⟨0, Nat.zero_le _, rfl, rfl, rfl, Below.refl _ _⟩
    case round =>
      obtain ⟨k, hk, hgk, rfl, hfit, hbe⟩ := hrel
      have Hgk := Lib.hid hgk
      have Hfit := Lib.hid hfit
      have Hbe := Lib.hid hbe
      clear hgk hfit
      by_cases hlt : k < heard.length
      · have ck := cell_below hbe (Hhc.out k hlt)
        have cx0 := cell_below hbe (Hpc.out k (by have := Hl.out; omega))
        have cx1 := cell_below hbe (Hpc.out (k + 1) (by have := Hl.out; omega))
        have bk := World.block_lt_of_cell? _ _ ck
        have bx := World.block_lt_of_cell? _ _ cx0
        simp only at bk bx
        have hki : (k : Int) < heard.length := by omega
        have hkx : (k : Int) < path.length := by have := Hl.out; omega
        have hkx1 : (k : Int) + 1 < path.length := by have := Hl.out; omega
        have hk0 : (0 : Int) ≤ (k : Int) + 1 := by omega
        have hpl : path.length ≤ 9223372036854775807 := by omega
        have r0 := Hr.out k
        have r1 := Hr.out (k + 1)
        have hwk : IntKind.i64.wrap ((k : Int) + 1) = (k : Int) + 1 := wrap_in (by omega) (by omega)
        have hwd : IntKind.i64.wrap (gi path (k + 1) - gi path k) = gi path (k + 1) - gi path k := wrap_in (by omega) (by omega)
        have hst : fitsTo path heard (k + 1) = ((gi heard k == -2) || (gi path (k + 1) - gi path k == gi heard k)) := by rw [fitsTo_succ, Hfit.out, Bool.true_and]; rfl
        rcases Bool.eq_false_or_eq_true (gi heard k == -2) with h2 | h2
        · have Hst : Hid (fitsTo path heard (k + 1) = true) := by unfold Hid; rw [hst, h2]; rfl
          have h2' : gi heard k = -2 := by simpa using h2
          have h2n : (gi heard k != -2) = false := by simp [bne, h2]
          clear hst h2 h2'
          go_wp2
          go_quiet (fail)
          go_wp2
          go_roundg (heard.length - (k + 1))
          case measure => have := Hgk.out; omega
          case rel => exact ⟨k + 1, by omega, rfl, by go_num, Hst.out, below_drewN Hbe.out _⟩
        · have h2n : (gi heard k != -2) = true := by simp [bne, h2]
          rcases Bool.eq_false_or_eq_true (gi path (k + 1) - gi path k == gi heard k) with h3 | h3
          · have Hst : Hid (fitsTo path heard (k + 1) = true) := by unfold Hid; rw [hst, h2, h3]; rfl
            have h3n : (gi heard k != gi path (k + 1) - gi path k) = false := by rw [bne_eq_false_iff_eq]; exact (beq_iff_eq.1 h3).symm
            clear hst h2 h3
            go_wp2
            go_quiet (fail)
            go_wp2
            go_roundg (heard.length - (k + 1))
            case measure => have := Hgk.out; omega
            case rel => exact ⟨k + 1, by omega, rfl, by go_num, Hst.out, below_drewN Hbe.out _⟩
          · have Hno : Hid (fitsTo path heard heard.length = false) := by
              unfold Hid fitsTo
              rw [List.all_eq_false]
              exact ⟨k, by simpa using hlt, by unfold hitB; rw [h2, h3]; simp⟩
            have h3n : (gi heard k != gi path (k + 1) - gi path k) = true := by rw [bne_iff_ne]; intro e; rw [beq_eq_false_iff_ne] at h3; exact h3 e.symm
            clear hst h2 h3
            go_wp2
            go_quiet (fail)
            go_wp2
            go_ret
            exact ⟨(by rw [Hno.out]; rfl), below_drewN Hbe.out _⟩
      · obtain rfl : k = heard.length := by omega
        go_wp2
        go_ret
        exact ⟨(by rw [Hfit.out]; rfl), Hbe.out⟩
end Go.Proofs.YtljikigmfkfkiaaDoor
