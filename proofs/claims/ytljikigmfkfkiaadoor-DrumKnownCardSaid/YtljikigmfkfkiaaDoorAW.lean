import Derived.Test.YtljikigmfkfkiaaDoorS
import Derived.Test.YtljikigmfkfkiaaDoorT
namespace Go.Proofs.YtljikigmfkfkiaaDoor
section
open Go.RowKit
set_option linter.unusedSimpArgs false
set_option linter.unusedVariables false

/-! Small questions of the specification's package. -/
theorem Sits_calls (n lo hi : Int) (w : World) : Calls Tryd.prog 53 #[.int .i64 n, .int .i64 lo, .int .i64 hi] w fun e w' => e = .returned (.bool (inB n lo hi)) ∧ w = w' := by
  by_cases h1 : lo ≤ n <;> by_cases h2 : n ≤ hi
  all_goals
    go_enter Tryd.func53, Tryd.ntmps53
    go_wp2
    go_ret
    exact ⟨by simp [inB, h1, h2], rfl⟩
def plainZ (n : Int) : Int := if n < 0 then -n else n
theorem Plain_calls (n : Int) (w : World) (h1 : -9223372036854775807 ≤ n) (h2 : n ≤ 9223372036854775807) : Calls Tryd.prog 86 #[.int .i64 n] w fun e w' => e = .returned (.int .i64 (plainZ n)) ∧ w = w' := by
  have hw : IntKind.i64.wrap (-n) = -n := wrap_in (by omega) (by omega)
  by_cases h : n < 0
  all_goals
    go_enter Tryd.func86, Tryd.ntmps86
    go_wp2
    go_ret
    exact ⟨(by unfold plainZ; first | (rw [if_pos (by omega)]; rfl) | (rw [if_neg (by omega)]; rfl)), rfl⟩
theorem Band_calls (a b : Int) (w : World) : Calls Tryd.prog 49 #[.int .i64 a, .int .i64 b] w fun e w' => e = .returned (.agg #[.int .i64 a, .int .i64 b]) ∧ Below w.heap.size w w' := by
  go_enter Tryd.func49, Tryd.ntmps49
  go_wp2
  have c0 := (BoxAt.new w #[.int .i64 a, .int .i64 b] 24).cell
  exact bodyPost_ret (v := .agg #[.int .i64 a, .int .i64 b]) (by simp [results, Tryd.results49, go_sem, c0]) rfl ⟨rfl, (Below.refl _ _).alloc (Nat.le_refl _) _⟩
theorem Good_calls (a b lo hi : Int) (w : World) : Calls Tryd.prog 64 #[.agg #[.int .i64 a, .int .i64 b], .int .i64 lo, .int .i64 hi] w fun e w' => e = .returned (.bool (spanB a b lo hi)) ∧ Below w.heap.size w w' := by
  by_cases h1 : lo ≤ a <;> by_cases h2 : a ≤ b <;> by_cases h3 : b ≤ hi
  all_goals
    go_enter Tryd.func64, Tryd.ntmps64
    go_wp2
    go_ret
    exact ⟨by simp [spanB, h1, h2, h3], (Below.refl _ _).alloc (Nat.le_refl _) _⟩
theorem Bears_calls (a b n : Int) (w : World) : Calls Tryd.prog 41 #[.agg #[.int .i64 a, .int .i64 b], .int .i64 n] w fun e w' => e = .returned (.bool (inB n a b)) ∧ Below w.heap.size w w' := by
  go_enter Tryd.func41, Tryd.ntmps41
  go_wp2_with (go_at_call 53; refine (Sits_calls _ _ _ _).mono ?_; rintro e w' ⟨rfl, rfl⟩)
  go_ret
  exact ⟨rfl, (Below.refl _ _).alloc (Nat.le_refl _) _⟩
/-- the first k places are alike -/
def eqTo (xs ys : List Int) (k : Nat) : Bool := (List.range k).all fun j => gi xs j == gi ys j
def eqL (xs ys : List Int) : Bool := decide (xs.length = ys.length) && eqTo xs ys xs.length
theorem eqTo_succ (xs ys : List Int) (k : Nat) : eqTo xs ys (k + 1) = (eqTo xs ys k && (gi xs k == gi ys k)) := range_all_succ _ _
theorem eqTo_false {xs ys : List Int} {k n : Nat} (hk : k ≤ n) (h : eqTo xs ys k = false) : eqTo xs ys n = false := by
  rw [Bool.eq_false_iff]; intro h2
  rw [show eqTo xs ys k = true from range_all_le h2 hk] at h; cases h
theorem eqL_iff {xs ys : List Int} : eqL xs ys = true ↔ xs = ys := by
  unfold eqL eqTo
  rw [Bool.and_eq_true, decide_eq_true_eq, List.all_eq_true]
  constructor
  · rintro ⟨h1, h2⟩
    refine List.ext_getElem h1 fun i hi hj => ?_
    have := h2 i (List.mem_range.2 hi)
    simpa [gi, hi, hj] using this
  · rintro rfl; simp
theorem eqL_self (xs : List Int) : eqL xs xs = true := eqL_iff.2 rfl
set_option maxRecDepth 100000 in
set_option maxHeartbeats 1000000 in
theorem Equal_calls (A : Option Addr) (c : Nat) (xs : List Int) (A' : Option Addr) (c' : Nat) (ys : List Int) (w : World) (ha : IntsAt w A xs) (hb : IntsAt w A' ys) :
    Calls Tryd.prog 24 #[.slice A xs.length c, .slice A' ys.length c'] w fun e w' => e = .returned (.bool (eqL xs ys)) ∧ Below w.heap.size w w' := by
  by_cases hl : xs.length = ys.length
  · rcases Nat.eq_zero_or_pos xs.length with h0 | h0
    · have hr : eqL xs ys = true := by
        rw [List.eq_nil_of_length_eq_zero h0, List.eq_nil_of_length_eq_zero (hl.symm.trans h0)]; rfl
      have hli : ((xs.length : Int) == ys.length) = true := by simp [hl]
      have hz : ¬ (0 : Int) < xs.length := by omega
      rw [hr]
      clear hl h0 hr
      go_enter Tryd.func24, Tryd.ntmps24
      go_wp2
      refine wp_loop_rounds 1 ?_
      rw [rounds_succ]
      go_wp2
      go_ret
      exact ⟨rfl, Below.refl _ _⟩
    · have hr : eqL xs ys = eqTo xs ys xs.length := by unfold eqL; simp [hl]
      have hli : ((xs.length : Int) == ys.length) = true := by simp [hl]
      obtain ⟨xb, xo, rfl, hxc⟩ := ha.2.resolve_left (by intro e; rw [e] at h0; simp at h0)
      obtain ⟨yb, yo, rfl, hyc⟩ := hb.2.resolve_left (by intro e; rw [e] at hl; rw [hl] at h0; simp at h0)
      have hle := ha.1
      rw [hr]
      have Hxc := Lib.hid hxc
      have Hyc := Lib.hid hyc
      have Hl := Lib.hid hl
      clear hl h0 hr ha hb hxc hyc
      go_enter Tryd.func24, Tryd.ntmps24
      go_wp2
      go_loopg [6, 5] xs.length (fun gk i s wr => ∃ k : Nat, k ≤ xs.length ∧ gk = xs.length - k ∧ i = .int .i64 k ∧ s = .bool (eqTo xs ys k) ∧ Below w.heap.size w wr)
      case atStart => exact ⟨0, Nat.zero_le _, rfl, rfl, rfl, Below.refl _ _⟩
      case round =>
        obtain ⟨k, hk, hgk, rfl, rfl, hB⟩ := hrel
        have Hgk := Lib.hid hgk
        have Hs := Lib.hid (eqTo_succ xs ys k)
        clear hgk
        generalize hx : eqTo xs ys k = x at *
        have Hx := Lib.hid hx
        clear hx
        cases x with
        | false =>
          have Hf := Lib.hid (eqTo_false hk Hx.out)
          go_wp2
          go_ret
          exact ⟨(by rw [Hf.out]; rfl), hB⟩
        | true =>
          by_cases hlt : k < xs.length
          · have ck := cell_below hB (Hxc.out k hlt)
            have dk := cell_below hB (Hyc.out k (by have := Hl.out; omega))
            have b1 := World.block_lt_of_cell? _ _ ck
            have b2 := World.block_lt_of_cell? _ _ dk
            have hki : (k : Int) < xs.length := by omega
            have hkj : (k : Int) < ys.length := by have := Hl.out; omega
            simp only at b1 b2
            go_wp2
            go_quiet (fail)
            go_wp2
            go_roundg (xs.length - (k + 1))
            case measure => have := Hgk.out; omega
            case rel => exact ⟨k + 1, by omega, rfl, by go_num, by rw [Hs.out]; rfl, below_drewN hB _⟩
          · obtain rfl : k = xs.length := by omega
            go_wp2
            go_ret
            exact ⟨(by rw [Hx.out]; rfl), hB⟩
  · have hr : eqL xs ys = false := by unfold eqL; simp [hl]
    have hli : ((xs.length : Int) == ys.length) = false := by rw [beq_eq_false_iff_ne]; omega
    rw [hr]
    clear hl hr
    go_enter Tryd.func24, Tryd.ntmps24
    go_wp2
    refine wp_loop_rounds 1 ?_
    rw [rounds_succ]
    go_wp2
    go_ret
    exact ⟨rfl, Below.refl _ _⟩
end
end Go.Proofs.YtljikigmfkfkiaaDoor
namespace Go.Proofs.YtljikigmfkfkiaaDoor
section
open Go.RowKit
set_option linter.unusedSimpArgs false
set_option linter.unusedVariables false

theorem beatsB_false {l : List Int} {k n : Nat} (hk : k ≤ n) (h : beatsB l k = false) : beatsB l n = false := by
  rw [Bool.eq_false_iff]; intro h2; rw [show beatsB l k = true from range_all_le h2 hk] at h; cases h
theorem catchB_false {l : List (Int × Int)} {k n : Nat} (hk : k ≤ n) (h : catchB l k = false) : catchB l n = false := by
  rw [Bool.eq_false_iff]; intro h2; rw [show catchB l k = true from range_all_le h2 hk] at h; cases h
theorem playersB_false {l : List PlayerV} {k n : Nat} (hk : k ≤ n) (h : playersB l k = false) : playersB l n = false := by
  rw [Bool.eq_false_iff]; intro h2; rw [show playersB l k = true from range_all_le h2 hk] at h; cases h
set_option maxRecDepth 100000 in
set_option maxHeartbeats 4000000 in
theorem refCheck_calls (B : BookV) (w : World) (hB : B.Reads w) :
    Calls Tryd.prog 19 #[B.val] w fun e w' => e = .returned (.int .i64 (bif goodB B then 0 else 80)) ∧ Below w.heap.size w w' := by
  obtain ⟨⟨hbl, hbc⟩, hpl, hpc, hps⟩ := hB
  have Hbc := Lib.hid hbc
  have Hpc := Lib.hid hpc
  have Hps := Lib.hid hps
  clear hbc hpc hps
  unfold BookV.val BookV.cells
  go_enter Tryd.func19, Tryd.ntmps19
  go_upto_region 1 with fail
  have k1 := BoxAt.new w B.cells 27
  have H1 : Below w.heap.size w (w.alloc (.cells B.cells 27)) := (Below.refl _ _).alloc (Nat.le_refl _) _
  unfold BookV.cells at k1 H1
  generalize w.alloc _ = w1 at *
  have K1 := Lib.hid k1
  obtain ⟨c1, f1, l1⟩ := k1
  go_cut [3] (fun s w2 => s = .bool (headB B && head2B B) ∧ Below w1.heap.size w1 w2)
  case first =>
    have Hc : Below w1.heap.size w1 w1 := Below.refl _ _
    rcases chain4 (inB B.parts 1 8) (inB B.size 1 16) ((B.beats.length : Int) == 4) (inB B.start 0 3) with h1 | ⟨h1, h2⟩ | ⟨h1, h2, h3⟩ | ⟨h1, h2, h3, h4⟩ | ⟨h1, h2, h3, h4⟩
    rotate_left 4
    · rcases chain4 (inB B.fin 0 3) (spanB B.tlo B.thi 0 128000) (spanB B.slo B.shi 0 100) (inB B.notice 1 B.size) with h5 | ⟨h5, h6⟩ | ⟨h5, h6, h7⟩ | ⟨h5, h6, h7, h8⟩ | ⟨h5, h6, h7, h8⟩
      all_goals
        go_wp2_with (first
          | (go_at_call 53; refine (Sits_calls _ _ _ _).mono ?_; rintro e w' ⟨rfl, rfl⟩)
          | (go_at_call 64; refine (Good_calls _ _ _ _ _).mono ?_; rintro e w' ⟨rfl, hb⟩; obtain ⟨c1, f1, l1⟩ := BoxAt.below ⟨c1, f1, l1⟩ hb; have Hc := below_then Hc Hc.size hb; clear hb))
        go_meet
        refine ⟨by simp_all [headB, head2B, dec4], by assumption⟩
    all_goals
      go_wp2_with (go_at_call 53; refine (Sits_calls _ _ _ _).mono ?_; rintro e w' ⟨rfl, rfl⟩)
      go_meet
      refine ⟨by simp_all [headB, dec4], by assumption⟩
  case rest =>
    obtain ⟨rfl, hb⟩ := hcut
    have H2 := below_then H1 H1.size hb
    have k2 := K1.out.below hb
    clear hb H1 c1 f1 l1 K1
    generalize wc = w2 at *
    have K2 := Lib.hid k2
    obtain ⟨c2, f2, l2⟩ := k2
    cases hh : (headB B && head2B B) with
    | false =>
      have Hr : Hid (goodB B = false) := by unfold Hid goodB; rw [hh]; rfl
      clear hh
      go_wp2
      refine wp_loop_rounds 1 ?_
      rw [rounds_succ]
      go_wp2
      refine wp_loop_rounds 1 ?_
      rw [rounds_succ]
      go_wp2
      go_ret
      exact ⟨(by rw [Hr.out]; rfl), H2⟩
    | true =>
      have hr : goodB B = (beatsB B.beats 4 && playersB B.players B.players.length) := by
        unfold goodB; rw [hh, Bool.true_and]
        have : B.beats.length = 4 := by
          simp only [headB, Bool.and_eq_true, decide_eq_true_eq] at hh
          exact hh.1.1.1.2
        rw [this]
      have hbl4 : B.beats.length = 4 := by
        simp only [headB, Bool.and_eq_true, decide_eq_true_eq] at hh
        exact hh.1.1.1.2
      obtain ⟨b, o, e, hc⟩ := Hbc.out.resolve_left (by intro e; rw [e] at hbl4; simp at hbl4)
      have Hr := Lib.hid hr
      have Hc := Lib.hid hc
      have Hbl := Lib.hid hbl4
      rw [e, hbl4] at c2
      clear hr hh hc hbl4 e
      go_upto_block 0 with (fail)
      go_cut [3] (fun s w3 => s = .bool (beatsB B.beats 4) ∧ w2 = w3)
      case first =>
        go_wp2
        go_loop [4, 3] (fun i s => ∃ k : Nat, k ≤ 4 ∧ i = .int .i64 k ∧ s = .bool (beatsB B.beats k)) (fun i _ => 4 - (intOf i).toNat)
        case atStart => exact ⟨0, Nat.zero_le _, rfl, rfl⟩
        case round =>
          obtain ⟨k, hk, rfl, rfl⟩ := hrel
          have Hs := Lib.hid (beatsB_succ B.beats k)
          generalize hx : beatsB B.beats k = x at *
          have Hx := Lib.hid hx
          clear hx
          cases x with
          | false =>
            have Hf := Lib.hid (beatsB_false hk Hx.out)
            go_wp2
            go_meet
            exact ⟨by rw [Hf.out], rfl⟩
          | true =>
            by_cases hlt : k < 4
            · have hck := cell_below H2 (Hc.out k (by rw [Hbl.out]; exact hlt))
              have hki : (k : Int) < 4 := by omega
              have bk := World.block_lt_of_cell? _ _ hck
              simp only at bk
              go_wp2_with (go_at_call 53; refine (Sits_calls _ _ _ _).mono ?_; rintro e w' ⟨rfl, rfl⟩)
              go_round
              case rel => exact ⟨k + 1, by omega, by go_num, by rw [Hs.out]; rfl⟩
              case measure => simp [intOf]; omega
            · obtain rfl : k = 4 := by omega
              go_wp2
              go_meet
              exact ⟨by rw [Hx.out], rfl⟩
      case rest =>
        obtain ⟨rfl, rfl⟩ := hcut
        generalize beatsB B.beats 4 = v2 at *
        cases v2 with
        | false =>
          go_wp2
          refine wp_loop_rounds 1 ?_
          rw [rounds_succ]
          go_wp2
          go_ret
          exact ⟨(by rw [Hr.out]; rfl), H2⟩
        | true =>
          go_upto_block 2 with (fail)
          go_cut [3] (fun s w3 => s = .bool (playersB B.players B.players.length) ∧ Below w.heap.size w w3)
          case first =>
            rcases Hpc.out with he | ⟨b2, o2, e2, hc2⟩
            · have hl0 : ¬ (0 : Int) < B.players.length := by rw [he]; simp
              have hl0' : ¬ 0 < B.players.length := by rw [he]; simp
              have hz : (B.players.length : Int) = 0 := by omega
              have He : Hid (playersB B.players B.players.length = true) := by unfold Hid; rw [he]; rfl
              clear he
              go_wp2
              refine wp_loop_rounds 1 ?_
              rw [rounds_succ]
              go_wp2
              go_meet
              exact ⟨by rw [He.out], H2⟩
            · have Hc3 := Lib.hid hc2
              clear hc2
              rw [e2] at c2
              clear e2
              have k2 : BoxAt w2 _ _ := ⟨c2, f2, l2⟩
              have K3 := Lib.hid k2
              clear k2
              go_wp2
              go_loopg [5, 3] B.players.length (fun gk i s wr => ∃ k : Nat, k ≤ B.players.length ∧ gk = B.players.length - k ∧ i = .int .i64 k ∧ s = .bool (playersB B.players k) ∧ Below w.heap.size w wr ∧ Below w2.heap.size w2 wr)
              case atStart => exact ⟨0, Nat.zero_le _, rfl, rfl, rfl, H2, Below.refl _ _⟩
              case round =>
                obtain ⟨k, hk, hgk, rfl, rfl, hB, hB2⟩ := hrel
                have Hgk := Lib.hid hgk
                obtain ⟨c4, f4, l4⟩ := K3.out.below hB2
                have hs := playersB_succ B.players k
                clear hgk c2 f2 l2
                generalize hx : playersB B.players k = x at *
                have Hx := Lib.hid hx
                clear hx
                cases x with
                | false =>
                  have Hf := Lib.hid (playersB_false hk Hx.out)
                  clear hs
                  go_wp2
                  go_meet
                  exact ⟨by rw [Hf.out], hB⟩
                | true =>
                  by_cases hlt : k < B.players.length
                  · obtain ⟨p0, p1, p2⟩ := Hc3.out k hlt
                    have hps := Hps.out _ (gp_mem hlt)
                    unfold playerB at hs
                    have Hs := Lib.hid hs
                    clear hs
                    generalize hpv : gp B.players k = p at *
                    clear hpv
                    obtain ⟨plo, phi, pcA, pcC, pct⟩ := p
                    simp only at p0 p1 p2 hps
                    replace p0 := cell_below hB p0
                    replace p1 := cell_below hB p1
                    replace p2 := cell_below hB p2
                    have pbl := World.block_lt_of_cell? _ _ p0
                    simp only at pbl
                    have hlti : (k : Int) < B.players.length := by omega
                    have hpl2 := hps.1.1
                    have Hsp := Lib.hid hps.1.2
                    clear hps
                    have k7 := BoxAt.new wr #[.int .i64 plo, .int .i64 phi, .slice pcA pct.length pcC] 68
                    have Hb1 : Below w.heap.size w (wr.alloc (.cells #[.int .i64 plo, .int .i64 phi, .slice pcA pct.length pcC] 68)) := hB.alloc hB.size _
                    have Hb2 : Below w2.heap.size w2 (wr.alloc (.cells #[.int .i64 plo, .int .i64 phi, .slice pcA pct.length pcC] 68)) := hB2.alloc hB2.size _
                    go_upto_region 10 with (fail)
                    obtain ⟨wp, hwp⟩ : ∃ wp, wp = wr.alloc (.cells #[.int .i64 plo, .int .i64 phi, .slice pcA pct.length pcC] 68) := ⟨_, rfl⟩
                    rw [← hwp] at k7 Hb1 Hb2 ⊢
                    clear hwp p0 p1 p2 hB hB2 c4 f4 l4
                    have K7 := Lib.hid k7
                    obtain ⟨c7, f7, l7⟩ := k7
                    generalize wr.heap.size = nb at *
                    go_cut [3] (fun s w3 => s = .bool (spanB plo phi 0 500 && decide (pct.length = 4)) ∧ Below wp.heap.size wp w3)
                    case first =>
                      rcases chain1 (spanB plo phi 0 500) with h1 | h1
                      all_goals
                        go_wp2_with (go_at_call 64; refine (Good_calls _ _ _ _ _).mono ?_; rintro e w' ⟨rfl, hb⟩; obtain ⟨c7, f7, l7⟩ := BoxAt.below ⟨c7, f7, l7⟩ hb)
                        go_meet
                        exact ⟨by simp [h1, dec4], by assumption⟩
                    case rest =>
                      obtain ⟨rfl, hb⟩ := hcut
                      have Hb3 := below_then Hb1 Hb1.size hb
                      have Hb4 := below_then Hb2 Hb2.size hb
                      have k8 := K7.out.below hb
                      clear hb Hb1 Hb2 c7 f7 l7 K7
                      generalize wc = w3 at *
                      cases hy : (spanB plo phi 0 500 && decide (pct.length = 4)) with
                      | false =>
                        have Hy : Hid (playersB B.players (k + 1) = false) := by unfold Hid; rw [Hs.out]; simp only at hy ⊢; rw [hy]; rfl
                        clear hy Hs
                        obtain ⟨c8, f8, l8⟩ := k8
                        go_wp2
                        refine wp_loop_rounds 1 ?_
                        rw [rounds_succ]
                        go_wp2
                        go_roundg (B.players.length - (k + 1))
                        case measure => have := Hgk.out; omega
                        case rel => exact ⟨k + 1, by omega, rfl, by go_num, by rw [Hy.out], Hb3, Hb4⟩
                      | true =>
                        have hp4 : pct.length = 4 := by rw [Bool.and_eq_true, decide_eq_true_eq] at hy; exact hy.2
                        have Hy : Hid (playersB B.players (k + 1) = catchB pct 4) := by unfold Hid; rw [Hs.out]; simp only at hy ⊢; rw [hy, hp4]; rfl
                        obtain ⟨b3, o3, e3, hc4⟩ := Hsp.out.resolve_left (by intro e; rw [e] at hp4; simp at hp4)
                        have Hc4 := Lib.hid hc4
                        rw [e3, hp4] at k8
                        have Hp4 := Lib.hid hp4
                        clear hy Hs hc4 Hsp hpl2 hp4 e3
                        have K8 := Lib.hid k8
                        obtain ⟨c8, f8, l8⟩ := k8
                        go_wp2
                        go_loopg [7, 3] 4 (fun gi' i s wi => ∃ m : Nat, m ≤ 4 ∧ gi' = 4 - m ∧ i = .int .i64 m ∧ s = .bool (catchB pct m) ∧ Below w3.heap.size w3 wi)
                        case atStart => exact ⟨0, Nat.zero_le _, rfl, rfl, rfl, Below.refl _ _⟩
                        case round =>
                          obtain ⟨m, hm, hgm, rfl, rfl, hB3⟩ := hrel
                          have Hgm := Lib.hid hgm
                          have Hsm := Lib.hid (catchB_succ pct m)
                          have Hb5 := Lib.hid (below_then Hb3 Hb3.size hB3)
                          have Hb6 := Lib.hid (below_then Hb4 Hb4.size hB3)
                          clear hgm c8 f8 l8
                          generalize hz : catchB pct m = z at *
                          have Hz := Lib.hid hz
                          clear hz
                          cases z with
                          | false =>
                            have Hf := Lib.hid (catchB_false hm Hz.out)
                            go_wp2
                            go_roundg (B.players.length - (k + 1))
                            case measure => have := Hgk.out; omega
                            case rel => exact ⟨k + 1, by omega, rfl, by go_num, by rw [Hy.out, Hf.out], Hb5.out, Hb6.out⟩
                          | true =>
                            by_cases hlm : m < 4
                            · obtain ⟨s0, s1⟩ := Hc4.out m (by rw [Hp4.out]; exact hlm)
                              replace s0 := cell_below Hb5.out s0
                              replace s1 := cell_below Hb5.out s1
                              have sbl := World.block_lt_of_cell? _ _ s0
                              simp only at sbl
                              have hmi : (m : Int) < 4 := by omega
                              obtain ⟨c9, f9, l9⟩ := K8.out.below hB3
                              generalize (gs pct m).1 = x1 at *
                              generalize (gs pct m).2 = x2 at *
                              go_wp2_with (go_at_call 64; refine (Good_calls _ _ _ _ _).mono ?_; rintro e w' ⟨rfl, hb⟩)
                              go_roundg (4 - (m + 1))
                              case measure => have := Hgm.out; omega
                              case rel => exact ⟨m + 1, by omega, rfl, by go_num, by rw [Hsm.out]; rfl, below_then hB3 hB3.size hb⟩
                            · obtain rfl : m = 4 := by omega
                              go_wp2
                              go_roundg (B.players.length - (k + 1))
                              case measure => have := Hgk.out; omega
                              case rel => exact ⟨k + 1, by omega, rfl, by go_num, by rw [Hy.out, Hz.out], Hb5.out, Hb6.out⟩
                  · obtain rfl : k = B.players.length := by omega
                    clear hs
                    go_wp2
                    go_meet
                    exact ⟨by rw [Hx.out], hB⟩
          case rest =>
            obtain ⟨rfl, hb⟩ := hcut
            generalize playersB B.players B.players.length = v at *
            cases v
            all_goals
              go_wp2
              go_ret
              exact ⟨(by rw [Hr.out]; rfl), hb⟩
end
end Go.Proofs.YtljikigmfkfkiaaDoor
namespace Go.Proofs.YtljikigmfkfkiaaDoor
section
open Go.RowKit Go.Shelf
attribute [local go_sem] Oper.semAt_some
set_option linter.unusedSimpArgs false
set_option linter.unusedVariables false

theorem plain_le (d : Int) (h : inB d (-1) 1 = true) : ¬ (1 : Int) < plainZ d := by
  have := inB_iff.1 h; unfold plainZ; split <;> omega
theorem plain_gt (d : Int) (h : inB d (-1) 1 = false) : (1 : Int) < plainZ d := by
  have h : ¬ (-1 ≤ d ∧ d ≤ 1) := fun e => by rw [inB_iff.2 e] at h; cases h
  unfold plainZ; split <;> omega
set_option maxRecDepth 100000 in
set_option maxHeartbeats 2000000 in
theorem refIsPath_calls (B : BookV) (g : B.Good) (A : Option Addr) (c : Nat) (path : List Int) (w : World) (hp : IntsAt w A path) :
    Calls Tryd.prog 60 #[B.val, .slice A path.length c] w fun e w' => e = .returned (.bool (isPathS B.parts B.start path)) ∧ Below w.heap.size w w' := by
  by_cases hl : (path.length : Int) = B.parts
  · have hgp := g.parts
    have hgs := g.start
    obtain ⟨b, o, rfl, hc⟩ := hp.2.resolve_left (by intro e; rw [e] at hl; simp at hl; omega)
    have hle := hp.1
    have hpos : 0 < path.length := by omega
    have hb : ((path.length : Int) != B.parts) = false := by rw [bne_eq_false_iff_eq]; exact hl
    have hc0 : w.cell? ⟨b, o, none⟩ = some (.int .i64 (gi path 0)) := hc 0 hpos
    have hbl := World.block_lt_of_cell? w _ hc0
    have Hc := Lib.hid hc
    have Hlen := Lib.hid hl
    have hlt0 : (0 : Int) < (path.length : Int) := by omega
    have hp8 : path.length ≤ 8 := by omega
    simp only at hbl
    clear hc hl hp g hgp
    by_cases h0 : gi path 0 = B.start
    · have h0b : (gi path 0 != B.start) = false := by rw [bne_eq_false_iff_eq]; exact h0
      have H0 := Lib.hid h0
      have Hok0 : Hid (okAt path 0 = true) := by unfold Hid okAt; rw [h0, inB_iff.2 hgs]; rfl
      clear h0 hgs
      unfold BookV.val BookV.cells
      go_enter Tryd.func60, Tryd.ntmps60
      go_wp2
      go_quiet (fail)
      go_wp2
      generalize hW : World.drewN _ _ = W1
      have hW1 : Below w.heap.size w W1 := by rw [← hW]; exact below_drewN ((Below.refl _ _).alloc (Nat.le_refl _) _) _
      clear hW
      go_loopg [5] (path.length - 1) (fun gk i wr => ∃ k : Nat, 1 ≤ k ∧ k ≤ path.length ∧ gk = path.length - k ∧ i = .int .i64 k ∧ (List.range k).all (okAt path) = true ∧ Below w.heap.size w wr)
      case atStart => exact ⟨1, Nat.le_refl _, by omega, rfl, rfl, by simp [Hok0.out], hW1⟩
      case round =>
        obtain ⟨k, hk1, hk, hgk, rfl, hall, hB⟩ := hrel
        have Hgk := Lib.hid hgk
        have Hall := Lib.hid hall
        have HB := Lib.hid hB
        clear hall hgk hB
        by_cases hlt : k < path.length
        · have hck := cell_below HB.out (Hc.out k hlt)
          have hcp := cell_below HB.out (Hc.out (k - 1) (by omega))
          have bk := World.block_lt_of_cell? _ _ hck
          simp only at bk
          have hki : (k : Int) < path.length := by omega
          have hkj : (k : Int) - 1 < path.length := by omega
          have hkn : ((k : Int) - 1).toNat = k - 1 := by omega
          have hk1i : (1 : Int) ≤ (k : Int) := by omega
          have hwk : IntKind.i64.wrap ((k : Int) - 1) = (k : Int) - 1 := wrap_in (by omega) (by omega)
          cases hin : inB (gi path k) 0 3 with
          | false =>
            have Hf := Lib.hid (isPathS_false (B := B) k hlt (by simp [okAt, hin]))
            go_upto_region 6 with (fail)
            refine region_plain (S := fun w' => Below wr.heap.size wr w') 20 (by kernel_rfl) ?_ (fun hHeld => ?_)
            · exact (Below.refl _ _).drew
            first | (refine anyT_take 0 (some 25) (v := ?_) rfl rfl (by kernel_rfl) (by kernel_rfl) (by kernel_rfl) (by kernel_rfl) (fun _ _ _ h => h) (Or.inl ⟨by rfl, ?_⟩) hHeld ?_; rotate_left; focus (intro wq hSw; obtain ⟨hcq, hfq⟩ := bcell hSw; go_simp; (try with_reducible rfl); done))
            (try simp only [Act.put, List.setIfInBounds_toArray, List.set_cons_zero, List.set_cons_succ])
            first | (refine anyT_take 1 (some 26) (v := ?_) rfl rfl (by kernel_rfl) (by kernel_rfl) (by kernel_rfl) (by kernel_rfl) (fun _ _ _ h => h) (Or.inl ⟨by rfl, ?_⟩) hHeld ?_; rotate_left; focus (intro wq hSw; obtain ⟨hcq, hfq⟩ := bcell hSw; go_simp; (try with_reducible rfl); done))
            (try simp only [Act.put, List.setIfInBounds_toArray, List.set_cons_zero, List.set_cons_succ])
            first | (refine anyT_take 2 (some 27) (v := ?_) rfl rfl (by kernel_rfl) (by kernel_rfl) (by kernel_rfl) (by kernel_rfl) (fun _ _ _ h => h) (Or.inl ⟨by rfl, ?_⟩) hHeld ?_; rotate_left; focus (intro wq hSw; obtain ⟨hcq, hfq⟩ := bcell hSw; go_simp; (try with_reducible rfl); done))
            (try simp only [Act.put, List.setIfInBounds_toArray, List.set_cons_zero, List.set_cons_succ])
            first | (refine anyT_take 3 (some 28) (v := ?_) rfl rfl (by kernel_rfl) (by kernel_rfl) (by kernel_rfl) (by kernel_rfl) (fun _ _ _ h => h) (Or.inl ⟨by rfl, ?_⟩) hHeld ?_; rotate_left; focus (intro wq hSw; obtain ⟨hcq, hfq⟩ := bcell hSw; go_simp; (try with_reducible rfl); done))
            (try simp only [Act.put, List.setIfInBounds_toArray, List.set_cons_zero, List.set_cons_succ])
            refine anyT_one 4 (by kernel_rfl) rfl (fun K hK => ?_)
            go_simp
            refine (Sits_calls _ _ _ _).mono ?_; rintro e w5 ⟨rfl, rfl⟩; rw [hin]
            refine hK.out _ _ ?_ (fun hHeld => ?_)
            · exact hHeld
            clear hK K
            (try simp only [Act.put, List.setIfInBounds_toArray, List.set_cons_zero, List.set_cons_succ])
            first | (refine anyT_take 5 (some 30) (v := ?_) rfl rfl (by kernel_rfl) (by kernel_rfl) (by kernel_rfl) (by kernel_rfl) (fun _ _ _ h => h) (Or.inl ⟨by rfl, ?_⟩) hHeld ?_; rotate_left; focus (intro wq hSw; obtain ⟨hcq, hfq⟩ := bcell hSw; go_simp; (try with_reducible rfl); done))
            (try simp only [Act.put, List.setIfInBounds_toArray, List.set_cons_zero, List.set_cons_succ])
            first | (refine anyT_take 6 (some 31) (v := ?_) rfl rfl (by kernel_rfl) (by kernel_rfl) (by kernel_rfl) (by kernel_rfl) (fun _ _ _ h => h) (Or.inl ⟨by rfl, ?_⟩) hHeld ?_; rotate_left; focus (intro wq hSw; obtain ⟨hcq, hfq⟩ := bcell hSw; go_simp; (try with_reducible rfl); done))
            (try simp only [Act.put, List.setIfInBounds_toArray, List.set_cons_zero, List.set_cons_succ])
            first | (refine anyT_take 7 (some 32) rfl rfl (by kernel_rfl) (by kernel_rfl) (by kernel_rfl) (by kernel_rfl) (fun _ _ _ h => h) (Or.inr ⟨by rfl, rfl⟩) hHeld ?_) | (refine anyT_take 7 (some 32) (v := ?_) rfl rfl (by kernel_rfl) (by kernel_rfl) (by kernel_rfl) (by kernel_rfl) (fun _ _ _ h => h) (Or.inl ⟨by rfl, ?_⟩) hHeld ?_; rotate_left; focus (intro wq hSw; obtain ⟨hcq, hfq⟩ := bcell hSw; go_simp; (try with_reducible rfl); done))
            (try simp only [Act.put, List.setIfInBounds_toArray, List.set_cons_zero, List.set_cons_succ])
            first | (refine anyT_take 8 (some 33) rfl rfl (by kernel_rfl) (by kernel_rfl) (by kernel_rfl) (by kernel_rfl) (fun _ _ _ h => h) (Or.inr ⟨by rfl, rfl⟩) hHeld ?_) | (refine anyT_take 8 (some 33) (v := ?_) rfl rfl (by kernel_rfl) (by kernel_rfl) (by kernel_rfl) (by kernel_rfl) (fun _ _ _ h => h) (Or.inl ⟨by rfl, ?_⟩) hHeld ?_; rotate_left; focus (intro wq hSw; obtain ⟨hcq, hfq⟩ := bcell hSw; go_simp; (try with_reducible rfl); done))
            (try simp only [Act.put, List.setIfInBounds_toArray, List.set_cons_zero, List.set_cons_succ])
            first | (refine anyT_take 9 (some 34) rfl rfl (by kernel_rfl) (by kernel_rfl) (by kernel_rfl) (by kernel_rfl) (fun _ _ _ h => h) (Or.inr ⟨by rfl, rfl⟩) hHeld ?_) | (refine anyT_take 9 (some 34) (v := ?_) rfl rfl (by kernel_rfl) (by kernel_rfl) (by kernel_rfl) (by kernel_rfl) (fun _ _ _ h => h) (Or.inl ⟨by rfl, ?_⟩) hHeld ?_; rotate_left; focus (intro wq hSw; obtain ⟨hcq, hfq⟩ := bcell hSw; go_simp; (try with_reducible rfl); done))
            (try simp only [Act.put, List.setIfInBounds_toArray, List.set_cons_zero, List.set_cons_succ])
            first | (refine anyT_take 10 (some 35) rfl rfl (by kernel_rfl) (by kernel_rfl) (by kernel_rfl) (by kernel_rfl) (fun _ _ _ h => h) (Or.inr ⟨by rfl, rfl⟩) hHeld ?_) | (refine anyT_take 10 (some 35) (v := ?_) rfl rfl (by kernel_rfl) (by kernel_rfl) (by kernel_rfl) (by kernel_rfl) (fun _ _ _ h => h) (Or.inl ⟨by rfl, ?_⟩) hHeld ?_; rotate_left; focus (intro wq hSw; obtain ⟨hcq, hfq⟩ := bcell hSw; go_simp; (try with_reducible rfl); done))
            (try simp only [Act.put, List.setIfInBounds_toArray, List.set_cons_zero, List.set_cons_succ])
            first | (refine anyT_take 11 (some 36) rfl rfl (by kernel_rfl) (by kernel_rfl) (by kernel_rfl) (by kernel_rfl) (fun _ _ _ h => h) (Or.inr ⟨by rfl, rfl⟩) hHeld ?_) | (refine anyT_take 11 (some 36) (v := ?_) rfl rfl (by kernel_rfl) (by kernel_rfl) (by kernel_rfl) (by kernel_rfl) (fun _ _ _ h => h) (Or.inl ⟨by rfl, ?_⟩) hHeld ?_; rotate_left; focus (intro wq hSw; obtain ⟨hcq, hfq⟩ := bcell hSw; go_simp; (try with_reducible rfl); done))
            (try simp only [Act.put, List.setIfInBounds_toArray, List.set_cons_zero, List.set_cons_succ])
            first | (refine anyT_take 12 (some 37) rfl rfl (by kernel_rfl) (by kernel_rfl) (by kernel_rfl) (by kernel_rfl) (fun _ _ _ h => h) (Or.inr ⟨by rfl, rfl⟩) hHeld ?_) | (refine anyT_take 12 (some 37) (v := ?_) rfl rfl (by kernel_rfl) (by kernel_rfl) (by kernel_rfl) (by kernel_rfl) (fun _ _ _ h => h) (Or.inl ⟨by rfl, ?_⟩) hHeld ?_; rotate_left; focus (intro wq hSw; obtain ⟨hcq, hfq⟩ := bcell hSw; go_simp; (try with_reducible rfl); done))
            (try simp only [Act.put, List.setIfInBounds_toArray, List.set_cons_zero, List.set_cons_succ])
            first | (refine anyT_take 13 (some 38) rfl rfl (by kernel_rfl) (by kernel_rfl) (by kernel_rfl) (by kernel_rfl) (fun _ _ _ h => h) (Or.inr ⟨by rfl, rfl⟩) hHeld ?_) | (refine anyT_take 13 (some 38) (v := ?_) rfl rfl (by kernel_rfl) (by kernel_rfl) (by kernel_rfl) (by kernel_rfl) (fun _ _ _ h => h) (Or.inl ⟨by rfl, ?_⟩) hHeld ?_; rotate_left; focus (intro wq hSw; obtain ⟨hcq, hfq⟩ := bcell hSw; go_simp; (try with_reducible rfl); done))
            (try simp only [Act.put, List.setIfInBounds_toArray, List.set_cons_zero, List.set_cons_succ])
            first | (refine anyT_take 14 (some 39) rfl rfl (by kernel_rfl) (by kernel_rfl) (by kernel_rfl) (by kernel_rfl) (fun _ _ _ h => h) (Or.inr ⟨by rfl, rfl⟩) hHeld ?_) | (refine anyT_take 14 (some 39) (v := ?_) rfl rfl (by kernel_rfl) (by kernel_rfl) (by kernel_rfl) (by kernel_rfl) (fun _ _ _ h => h) (Or.inl ⟨by rfl, ?_⟩) hHeld ?_; rotate_left; focus (intro wq hSw; obtain ⟨hcq, hfq⟩ := bcell hSw; go_simp; (try with_reducible rfl); done))
            (try simp only [Act.put, List.setIfInBounds_toArray, List.set_cons_zero, List.set_cons_succ])
            first | (refine anyT_take 15 (some 40) rfl rfl (by kernel_rfl) (by kernel_rfl) (by kernel_rfl) (by kernel_rfl) (fun _ _ _ h => h) (Or.inr ⟨by rfl, rfl⟩) hHeld ?_) | (refine anyT_take 15 (some 40) (v := ?_) rfl rfl (by kernel_rfl) (by kernel_rfl) (by kernel_rfl) (by kernel_rfl) (fun _ _ _ h => h) (Or.inl ⟨by rfl, ?_⟩) hHeld ?_; rotate_left; focus (intro wq hSw; obtain ⟨hcq, hfq⟩ := bcell hSw; go_simp; (try with_reducible rfl); done))
            (try simp only [Act.put, List.setIfInBounds_toArray, List.set_cons_zero, List.set_cons_succ])
            first | (refine anyT_take 16 (some 41) rfl rfl (by kernel_rfl) (by kernel_rfl) (by kernel_rfl) (by kernel_rfl) (fun _ _ _ h => h) (Or.inr ⟨by rfl, rfl⟩) hHeld ?_) | (refine anyT_take 16 (some 41) (v := ?_) rfl rfl (by kernel_rfl) (by kernel_rfl) (by kernel_rfl) (by kernel_rfl) (fun _ _ _ h => h) (Or.inl ⟨by rfl, ?_⟩) hHeld ?_; rotate_left; focus (intro wq hSw; obtain ⟨hcq, hfq⟩ := bcell hSw; go_simp; (try with_reducible rfl); done))
            (try simp only [Act.put, List.setIfInBounds_toArray, List.set_cons_zero, List.set_cons_succ])
            refine anyT_one 17 (by kernel_rfl) rfl (fun K hK => ?_)
            go_simp
            refine hK.out _ _ ?_ (fun hHeld => ?_)
            · trivial
            clear hK K
            (try simp only [Act.put, List.setIfInBounds_toArray, List.set_cons_zero, List.set_cons_succ])
            first | (refine anyT_take 18 (some 43) rfl rfl (by kernel_rfl) (by kernel_rfl) (by kernel_rfl) (by kernel_rfl) (fun _ _ _ h => h) (Or.inr ⟨by rfl, rfl⟩) hHeld ?_) | (refine anyT_take 18 (some 43) (v := ?_) rfl rfl (by kernel_rfl) (by kernel_rfl) (by kernel_rfl) (by kernel_rfl) (fun _ _ _ h => h) (Or.inl ⟨by rfl, ?_⟩) hHeld ?_; rotate_left; focus (intro wq hSw; obtain ⟨hcq, hfq⟩ := bcell hSw; go_simp; (try with_reducible rfl); done))
            (try simp only [Act.put, List.setIfInBounds_toArray, List.set_cons_zero, List.set_cons_succ])
            first | (refine anyT_take 19 (some 44) (v := ?_) rfl rfl (by kernel_rfl) (by kernel_rfl) (by kernel_rfl) (by kernel_rfl) (fun _ _ _ h => h) (Or.inl ⟨by rfl, ?_⟩) hHeld ?_; rotate_left; focus (intro wq hSw; obtain ⟨hcq, hfq⟩ := bcell hSw; go_simp; (try with_reducible rfl); done))
            (try simp only [Act.put, List.setIfInBounds_toArray, List.set_cons_zero, List.set_cons_succ])
            refine anyT_done (by kernel_rfl) ?_ _
            have hfin := below_then HB.out HB.out.size hHeld
            clear hHeld
            go_wp2
            go_ret
            exact ⟨(by rw [Hf.out]; rfl), hfin⟩
          | true =>
            obtain ⟨i1, i2⟩ := inB_true hin
            obtain ⟨j1, j2⟩ := inB_true (okAt_in (range_all_get Hall.out (k - 1) (by omega)))
            have hwd : IntKind.i64.wrap (gi path k - gi path (k - 1)) = gi path k - gi path (k - 1) := wrap_in (by omega) (by omega)
            have hkn0 : (k == 0) = false := by rw [beq_eq_false_iff_ne]; omega
            cases hd : inB (gi path k - gi path (k - 1)) (-1) 1 with
            | false =>
              have Hf := Lib.hid (isPathS_false (B := B) k hlt (by simp [okAt, hin, hd, hkn0]))
              have hgt := plain_gt _ hd
              go_upto_region 6 with (fail)
              refine region_plain (S := fun w' => Below wr.heap.size wr w') 20 (by kernel_rfl) ?_ (fun hHeld => ?_)
              · exact (Below.refl _ _).drew
              first | (refine anyT_take 0 (some 25) (v := ?_) rfl rfl (by kernel_rfl) (by kernel_rfl) (by kernel_rfl) (by kernel_rfl) (fun _ _ _ h => h) (Or.inl ⟨by rfl, ?_⟩) hHeld ?_; rotate_left; focus (intro wq hSw; obtain ⟨hcq, hfq⟩ := bcell hSw; go_simp; (try with_reducible rfl); done))
              (try simp only [Act.put, List.setIfInBounds_toArray, List.set_cons_zero, List.set_cons_succ])
              first | (refine anyT_take 1 (some 26) (v := ?_) rfl rfl (by kernel_rfl) (by kernel_rfl) (by kernel_rfl) (by kernel_rfl) (fun _ _ _ h => h) (Or.inl ⟨by rfl, ?_⟩) hHeld ?_; rotate_left; focus (intro wq hSw; obtain ⟨hcq, hfq⟩ := bcell hSw; go_simp; (try with_reducible rfl); done))
              (try simp only [Act.put, List.setIfInBounds_toArray, List.set_cons_zero, List.set_cons_succ])
              first | (refine anyT_take 2 (some 27) (v := ?_) rfl rfl (by kernel_rfl) (by kernel_rfl) (by kernel_rfl) (by kernel_rfl) (fun _ _ _ h => h) (Or.inl ⟨by rfl, ?_⟩) hHeld ?_; rotate_left; focus (intro wq hSw; obtain ⟨hcq, hfq⟩ := bcell hSw; go_simp; (try with_reducible rfl); done))
              (try simp only [Act.put, List.setIfInBounds_toArray, List.set_cons_zero, List.set_cons_succ])
              first | (refine anyT_take 3 (some 28) (v := ?_) rfl rfl (by kernel_rfl) (by kernel_rfl) (by kernel_rfl) (by kernel_rfl) (fun _ _ _ h => h) (Or.inl ⟨by rfl, ?_⟩) hHeld ?_; rotate_left; focus (intro wq hSw; obtain ⟨hcq, hfq⟩ := bcell hSw; go_simp; (try with_reducible rfl); done))
              (try simp only [Act.put, List.setIfInBounds_toArray, List.set_cons_zero, List.set_cons_succ])
              refine anyT_one 4 (by kernel_rfl) rfl (fun K hK => ?_)
              go_simp
              refine (Sits_calls _ _ _ _).mono ?_; rintro e w5 ⟨rfl, rfl⟩; rw [hin]
              refine hK.out _ _ ?_ (fun hHeld => ?_)
              · exact hHeld
              clear hK K
              (try simp only [Act.put, List.setIfInBounds_toArray, List.set_cons_zero, List.set_cons_succ])
              first | (refine anyT_take 5 (some 30) (v := ?_) rfl rfl (by kernel_rfl) (by kernel_rfl) (by kernel_rfl) (by kernel_rfl) (fun _ _ _ h => h) (Or.inl ⟨by rfl, ?_⟩) hHeld ?_; rotate_left; focus (intro wq hSw; obtain ⟨hcq, hfq⟩ := bcell hSw; go_simp; (try with_reducible rfl); done))
              (try simp only [Act.put, List.setIfInBounds_toArray, List.set_cons_zero, List.set_cons_succ])
              first | (refine anyT_take 6 (some 31) (v := ?_) rfl rfl (by kernel_rfl) (by kernel_rfl) (by kernel_rfl) (by kernel_rfl) (fun _ _ _ h => h) (Or.inl ⟨by rfl, ?_⟩) hHeld ?_; rotate_left; focus (intro wq hSw; obtain ⟨hcq, hfq⟩ := bcell hSw; go_simp; (try with_reducible rfl); done))
              (try simp only [Act.put, List.setIfInBounds_toArray, List.set_cons_zero, List.set_cons_succ])
              first | (refine anyT_take 7 (some 32) rfl rfl (by kernel_rfl) (by kernel_rfl) (by kernel_rfl) (by kernel_rfl) (fun _ _ _ h => h) (Or.inr ⟨by rfl, rfl⟩) hHeld ?_) | (refine anyT_take 7 (some 32) (v := ?_) rfl rfl (by kernel_rfl) (by kernel_rfl) (by kernel_rfl) (by kernel_rfl) (fun _ _ _ h => h) (Or.inl ⟨by rfl, ?_⟩) hHeld ?_; rotate_left; focus (intro wq hSw; obtain ⟨hcq, hfq⟩ := bcell hSw; go_simp; (try with_reducible rfl); done))
              (try simp only [Act.put, List.setIfInBounds_toArray, List.set_cons_zero, List.set_cons_succ])
              first | (refine anyT_take 8 (some 33) rfl rfl (by kernel_rfl) (by kernel_rfl) (by kernel_rfl) (by kernel_rfl) (fun _ _ _ h => h) (Or.inr ⟨by rfl, rfl⟩) hHeld ?_) | (refine anyT_take 8 (some 33) (v := ?_) rfl rfl (by kernel_rfl) (by kernel_rfl) (by kernel_rfl) (by kernel_rfl) (fun _ _ _ h => h) (Or.inl ⟨by rfl, ?_⟩) hHeld ?_; rotate_left; focus (intro wq hSw; obtain ⟨hcq, hfq⟩ := bcell hSw; go_simp; (try with_reducible rfl); done))
              (try simp only [Act.put, List.setIfInBounds_toArray, List.set_cons_zero, List.set_cons_succ])
              first | (refine anyT_take 9 (some 34) rfl rfl (by kernel_rfl) (by kernel_rfl) (by kernel_rfl) (by kernel_rfl) (fun _ _ _ h => h) (Or.inr ⟨by rfl, rfl⟩) hHeld ?_) | (refine anyT_take 9 (some 34) (v := ?_) rfl rfl (by kernel_rfl) (by kernel_rfl) (by kernel_rfl) (by kernel_rfl) (fun _ _ _ h => h) (Or.inl ⟨by rfl, ?_⟩) hHeld ?_; rotate_left; focus (intro wq hSw; obtain ⟨hcq, hfq⟩ := bcell hSw; go_simp; (try with_reducible rfl); done))
              (try simp only [Act.put, List.setIfInBounds_toArray, List.set_cons_zero, List.set_cons_succ])
              first | (refine anyT_take 10 (some 35) rfl rfl (by kernel_rfl) (by kernel_rfl) (by kernel_rfl) (by kernel_rfl) (fun _ _ _ h => h) (Or.inr ⟨by rfl, rfl⟩) hHeld ?_) | (refine anyT_take 10 (some 35) (v := ?_) rfl rfl (by kernel_rfl) (by kernel_rfl) (by kernel_rfl) (by kernel_rfl) (fun _ _ _ h => h) (Or.inl ⟨by rfl, ?_⟩) hHeld ?_; rotate_left; focus (intro wq hSw; obtain ⟨hcq, hfq⟩ := bcell hSw; go_simp; (try with_reducible rfl); done))
              (try simp only [Act.put, List.setIfInBounds_toArray, List.set_cons_zero, List.set_cons_succ])
              first | (refine anyT_take 11 (some 36) rfl rfl (by kernel_rfl) (by kernel_rfl) (by kernel_rfl) (by kernel_rfl) (fun _ _ _ h => h) (Or.inr ⟨by rfl, rfl⟩) hHeld ?_) | (refine anyT_take 11 (some 36) (v := ?_) rfl rfl (by kernel_rfl) (by kernel_rfl) (by kernel_rfl) (by kernel_rfl) (fun _ _ _ h => h) (Or.inl ⟨by rfl, ?_⟩) hHeld ?_; rotate_left; focus (intro wq hSw; obtain ⟨hcq, hfq⟩ := bcell hSw; go_simp; (try with_reducible rfl); done))
              (try simp only [Act.put, List.setIfInBounds_toArray, List.set_cons_zero, List.set_cons_succ])
              first | (refine anyT_take 12 (some 37) rfl rfl (by kernel_rfl) (by kernel_rfl) (by kernel_rfl) (by kernel_rfl) (fun _ _ _ h => h) (Or.inr ⟨by rfl, rfl⟩) hHeld ?_) | (refine anyT_take 12 (some 37) (v := ?_) rfl rfl (by kernel_rfl) (by kernel_rfl) (by kernel_rfl) (by kernel_rfl) (fun _ _ _ h => h) (Or.inl ⟨by rfl, ?_⟩) hHeld ?_; rotate_left; focus (intro wq hSw; obtain ⟨hcq, hfq⟩ := bcell hSw; go_simp; (try with_reducible rfl); done))
              (try simp only [Act.put, List.setIfInBounds_toArray, List.set_cons_zero, List.set_cons_succ])
              first | (refine anyT_take 13 (some 38) rfl rfl (by kernel_rfl) (by kernel_rfl) (by kernel_rfl) (by kernel_rfl) (fun _ _ _ h => h) (Or.inr ⟨by rfl, rfl⟩) hHeld ?_) | (refine anyT_take 13 (some 38) (v := ?_) rfl rfl (by kernel_rfl) (by kernel_rfl) (by kernel_rfl) (by kernel_rfl) (fun _ _ _ h => h) (Or.inl ⟨by rfl, ?_⟩) hHeld ?_; rotate_left; focus (intro wq hSw; obtain ⟨hcq, hfq⟩ := bcell hSw; go_simp; (try with_reducible rfl); done))
              (try simp only [Act.put, List.setIfInBounds_toArray, List.set_cons_zero, List.set_cons_succ])
              first | (refine anyT_take 14 (some 39) rfl rfl (by kernel_rfl) (by kernel_rfl) (by kernel_rfl) (by kernel_rfl) (fun _ _ _ h => h) (Or.inr ⟨by rfl, rfl⟩) hHeld ?_) | (refine anyT_take 14 (some 39) (v := ?_) rfl rfl (by kernel_rfl) (by kernel_rfl) (by kernel_rfl) (by kernel_rfl) (fun _ _ _ h => h) (Or.inl ⟨by rfl, ?_⟩) hHeld ?_; rotate_left; focus (intro wq hSw; obtain ⟨hcq, hfq⟩ := bcell hSw; go_simp; (try with_reducible rfl); done))
              (try simp only [Act.put, List.setIfInBounds_toArray, List.set_cons_zero, List.set_cons_succ])
              first | (refine anyT_take 15 (some 40) rfl rfl (by kernel_rfl) (by kernel_rfl) (by kernel_rfl) (by kernel_rfl) (fun _ _ _ h => h) (Or.inr ⟨by rfl, rfl⟩) hHeld ?_) | (refine anyT_take 15 (some 40) (v := ?_) rfl rfl (by kernel_rfl) (by kernel_rfl) (by kernel_rfl) (by kernel_rfl) (fun _ _ _ h => h) (Or.inl ⟨by rfl, ?_⟩) hHeld ?_; rotate_left; focus (intro wq hSw; obtain ⟨hcq, hfq⟩ := bcell hSw; go_simp; (try with_reducible rfl); done))
              (try simp only [Act.put, List.setIfInBounds_toArray, List.set_cons_zero, List.set_cons_succ])
              first | (refine anyT_take 16 (some 41) rfl rfl (by kernel_rfl) (by kernel_rfl) (by kernel_rfl) (by kernel_rfl) (fun _ _ _ h => h) (Or.inr ⟨by rfl, rfl⟩) hHeld ?_) | (refine anyT_take 16 (some 41) (v := ?_) rfl rfl (by kernel_rfl) (by kernel_rfl) (by kernel_rfl) (by kernel_rfl) (fun _ _ _ h => h) (Or.inl ⟨by rfl, ?_⟩) hHeld ?_; rotate_left; focus (intro wq hSw; obtain ⟨hcq, hfq⟩ := bcell hSw; go_simp; (try with_reducible rfl); done))
              (try simp only [Act.put, List.setIfInBounds_toArray, List.set_cons_zero, List.set_cons_succ])
              refine anyT_one 17 (by kernel_rfl) rfl (fun K hK => ?_)
              go_simp
              refine (Plain_calls _ _ (by omega) (by omega)).mono ?_; rintro e w5 ⟨rfl, rfl⟩
              refine hK.out _ _ ?_ (fun hHeld => ?_)
              · exact hHeld
              clear hK K
              (try simp only [Act.put, List.setIfInBounds_toArray, List.set_cons_zero, List.set_cons_succ])
              first | (refine anyT_take 18 (some 43) rfl rfl (by kernel_rfl) (by kernel_rfl) (by kernel_rfl) (by kernel_rfl) (fun _ _ _ h => h) (Or.inr ⟨by rfl, rfl⟩) hHeld ?_) | (refine anyT_take 18 (some 43) (v := ?_) rfl rfl (by kernel_rfl) (by kernel_rfl) (by kernel_rfl) (by kernel_rfl) (fun _ _ _ h => h) (Or.inl ⟨by rfl, ?_⟩) hHeld ?_; rotate_left; focus (intro wq hSw; obtain ⟨hcq, hfq⟩ := bcell hSw; go_simp; (try with_reducible rfl); done))
              (try simp only [Act.put, List.setIfInBounds_toArray, List.set_cons_zero, List.set_cons_succ])
              first | (refine anyT_take 19 (some 44) (v := ?_) rfl rfl (by kernel_rfl) (by kernel_rfl) (by kernel_rfl) (by kernel_rfl) (fun _ _ _ h => h) (Or.inl ⟨by rfl, ?_⟩) hHeld ?_; rotate_left; focus (intro wq hSw; obtain ⟨hcq, hfq⟩ := bcell hSw; go_simp; (try with_reducible rfl); done))
              (try simp only [Act.put, List.setIfInBounds_toArray, List.set_cons_zero, List.set_cons_succ])
              refine anyT_done (by kernel_rfl) ?_ _
              have hfin := below_then HB.out HB.out.size hHeld
              clear hHeld
              go_wp2
              go_ret
              exact ⟨(by rw [Hf.out]; rfl), hfin⟩
            | true =>
              have Hs : Hid ((List.range (k + 1)).all (okAt path) = true) := by unfold Hid; rw [range_all_succ, Hall.out]; simp [okAt, hin, hd]
              have hle1 := plain_le _ hd
              go_upto_region 6 with (fail)
              refine region_plain (S := fun w' => Below wr.heap.size wr w') 20 (by kernel_rfl) ?_ (fun hHeld => ?_)
              · exact (Below.refl _ _).drew
              first | (refine anyT_take 0 (some 25) (v := ?_) rfl rfl (by kernel_rfl) (by kernel_rfl) (by kernel_rfl) (by kernel_rfl) (fun _ _ _ h => h) (Or.inl ⟨by rfl, ?_⟩) hHeld ?_; rotate_left; focus (intro wq hSw; obtain ⟨hcq, hfq⟩ := bcell hSw; go_simp; (try with_reducible rfl); done))
              (try simp only [Act.put, List.setIfInBounds_toArray, List.set_cons_zero, List.set_cons_succ])
              first | (refine anyT_take 1 (some 26) (v := ?_) rfl rfl (by kernel_rfl) (by kernel_rfl) (by kernel_rfl) (by kernel_rfl) (fun _ _ _ h => h) (Or.inl ⟨by rfl, ?_⟩) hHeld ?_; rotate_left; focus (intro wq hSw; obtain ⟨hcq, hfq⟩ := bcell hSw; go_simp; (try with_reducible rfl); done))
              (try simp only [Act.put, List.setIfInBounds_toArray, List.set_cons_zero, List.set_cons_succ])
              first | (refine anyT_take 2 (some 27) (v := ?_) rfl rfl (by kernel_rfl) (by kernel_rfl) (by kernel_rfl) (by kernel_rfl) (fun _ _ _ h => h) (Or.inl ⟨by rfl, ?_⟩) hHeld ?_; rotate_left; focus (intro wq hSw; obtain ⟨hcq, hfq⟩ := bcell hSw; go_simp; (try with_reducible rfl); done))
              (try simp only [Act.put, List.setIfInBounds_toArray, List.set_cons_zero, List.set_cons_succ])
              first | (refine anyT_take 3 (some 28) (v := ?_) rfl rfl (by kernel_rfl) (by kernel_rfl) (by kernel_rfl) (by kernel_rfl) (fun _ _ _ h => h) (Or.inl ⟨by rfl, ?_⟩) hHeld ?_; rotate_left; focus (intro wq hSw; obtain ⟨hcq, hfq⟩ := bcell hSw; go_simp; (try with_reducible rfl); done))
              (try simp only [Act.put, List.setIfInBounds_toArray, List.set_cons_zero, List.set_cons_succ])
              refine anyT_one 4 (by kernel_rfl) rfl (fun K hK => ?_)
              go_simp
              refine (Sits_calls _ _ _ _).mono ?_; rintro e w5 ⟨rfl, rfl⟩; rw [hin]
              refine hK.out _ _ ?_ (fun hHeld => ?_)
              · exact hHeld
              clear hK K
              (try simp only [Act.put, List.setIfInBounds_toArray, List.set_cons_zero, List.set_cons_succ])
              first | (refine anyT_take 5 (some 30) (v := ?_) rfl rfl (by kernel_rfl) (by kernel_rfl) (by kernel_rfl) (by kernel_rfl) (fun _ _ _ h => h) (Or.inl ⟨by rfl, ?_⟩) hHeld ?_; rotate_left; focus (intro wq hSw; obtain ⟨hcq, hfq⟩ := bcell hSw; go_simp; (try with_reducible rfl); done))
              (try simp only [Act.put, List.setIfInBounds_toArray, List.set_cons_zero, List.set_cons_succ])
              first | (refine anyT_take 6 (some 31) (v := ?_) rfl rfl (by kernel_rfl) (by kernel_rfl) (by kernel_rfl) (by kernel_rfl) (fun _ _ _ h => h) (Or.inl ⟨by rfl, ?_⟩) hHeld ?_; rotate_left; focus (intro wq hSw; obtain ⟨hcq, hfq⟩ := bcell hSw; go_simp; (try with_reducible rfl); done))
              (try simp only [Act.put, List.setIfInBounds_toArray, List.set_cons_zero, List.set_cons_succ])
              first | (refine anyT_take 7 (some 32) rfl rfl (by kernel_rfl) (by kernel_rfl) (by kernel_rfl) (by kernel_rfl) (fun _ _ _ h => h) (Or.inr ⟨by rfl, rfl⟩) hHeld ?_) | (refine anyT_take 7 (some 32) (v := ?_) rfl rfl (by kernel_rfl) (by kernel_rfl) (by kernel_rfl) (by kernel_rfl) (fun _ _ _ h => h) (Or.inl ⟨by rfl, ?_⟩) hHeld ?_; rotate_left; focus (intro wq hSw; obtain ⟨hcq, hfq⟩ := bcell hSw; go_simp; (try with_reducible rfl); done))
              (try simp only [Act.put, List.setIfInBounds_toArray, List.set_cons_zero, List.set_cons_succ])
              first | (refine anyT_take 8 (some 33) rfl rfl (by kernel_rfl) (by kernel_rfl) (by kernel_rfl) (by kernel_rfl) (fun _ _ _ h => h) (Or.inr ⟨by rfl, rfl⟩) hHeld ?_) | (refine anyT_take 8 (some 33) (v := ?_) rfl rfl (by kernel_rfl) (by kernel_rfl) (by kernel_rfl) (by kernel_rfl) (fun _ _ _ h => h) (Or.inl ⟨by rfl, ?_⟩) hHeld ?_; rotate_left; focus (intro wq hSw; obtain ⟨hcq, hfq⟩ := bcell hSw; go_simp; (try with_reducible rfl); done))
              (try simp only [Act.put, List.setIfInBounds_toArray, List.set_cons_zero, List.set_cons_succ])
              first | (refine anyT_take 9 (some 34) rfl rfl (by kernel_rfl) (by kernel_rfl) (by kernel_rfl) (by kernel_rfl) (fun _ _ _ h => h) (Or.inr ⟨by rfl, rfl⟩) hHeld ?_) | (refine anyT_take 9 (some 34) (v := ?_) rfl rfl (by kernel_rfl) (by kernel_rfl) (by kernel_rfl) (by kernel_rfl) (fun _ _ _ h => h) (Or.inl ⟨by rfl, ?_⟩) hHeld ?_; rotate_left; focus (intro wq hSw; obtain ⟨hcq, hfq⟩ := bcell hSw; go_simp; (try with_reducible rfl); done))
              (try simp only [Act.put, List.setIfInBounds_toArray, List.set_cons_zero, List.set_cons_succ])
              first | (refine anyT_take 10 (some 35) rfl rfl (by kernel_rfl) (by kernel_rfl) (by kernel_rfl) (by kernel_rfl) (fun _ _ _ h => h) (Or.inr ⟨by rfl, rfl⟩) hHeld ?_) | (refine anyT_take 10 (some 35) (v := ?_) rfl rfl (by kernel_rfl) (by kernel_rfl) (by kernel_rfl) (by kernel_rfl) (fun _ _ _ h => h) (Or.inl ⟨by rfl, ?_⟩) hHeld ?_; rotate_left; focus (intro wq hSw; obtain ⟨hcq, hfq⟩ := bcell hSw; go_simp; (try with_reducible rfl); done))
              (try simp only [Act.put, List.setIfInBounds_toArray, List.set_cons_zero, List.set_cons_succ])
              first | (refine anyT_take 11 (some 36) rfl rfl (by kernel_rfl) (by kernel_rfl) (by kernel_rfl) (by kernel_rfl) (fun _ _ _ h => h) (Or.inr ⟨by rfl, rfl⟩) hHeld ?_) | (refine anyT_take 11 (some 36) (v := ?_) rfl rfl (by kernel_rfl) (by kernel_rfl) (by kernel_rfl) (by kernel_rfl) (fun _ _ _ h => h) (Or.inl ⟨by rfl, ?_⟩) hHeld ?_; rotate_left; focus (intro wq hSw; obtain ⟨hcq, hfq⟩ := bcell hSw; go_simp; (try with_reducible rfl); done))
              (try simp only [Act.put, List.setIfInBounds_toArray, List.set_cons_zero, List.set_cons_succ])
              first | (refine anyT_take 12 (some 37) rfl rfl (by kernel_rfl) (by kernel_rfl) (by kernel_rfl) (by kernel_rfl) (fun _ _ _ h => h) (Or.inr ⟨by rfl, rfl⟩) hHeld ?_) | (refine anyT_take 12 (some 37) (v := ?_) rfl rfl (by kernel_rfl) (by kernel_rfl) (by kernel_rfl) (by kernel_rfl) (fun _ _ _ h => h) (Or.inl ⟨by rfl, ?_⟩) hHeld ?_; rotate_left; focus (intro wq hSw; obtain ⟨hcq, hfq⟩ := bcell hSw; go_simp; (try with_reducible rfl); done))
              (try simp only [Act.put, List.setIfInBounds_toArray, List.set_cons_zero, List.set_cons_succ])
              first | (refine anyT_take 13 (some 38) rfl rfl (by kernel_rfl) (by kernel_rfl) (by kernel_rfl) (by kernel_rfl) (fun _ _ _ h => h) (Or.inr ⟨by rfl, rfl⟩) hHeld ?_) | (refine anyT_take 13 (some 38) (v := ?_) rfl rfl (by kernel_rfl) (by kernel_rfl) (by kernel_rfl) (by kernel_rfl) (fun _ _ _ h => h) (Or.inl ⟨by rfl, ?_⟩) hHeld ?_; rotate_left; focus (intro wq hSw; obtain ⟨hcq, hfq⟩ := bcell hSw; go_simp; (try with_reducible rfl); done))
              (try simp only [Act.put, List.setIfInBounds_toArray, List.set_cons_zero, List.set_cons_succ])
              first | (refine anyT_take 14 (some 39) rfl rfl (by kernel_rfl) (by kernel_rfl) (by kernel_rfl) (by kernel_rfl) (fun _ _ _ h => h) (Or.inr ⟨by rfl, rfl⟩) hHeld ?_) | (refine anyT_take 14 (some 39) (v := ?_) rfl rfl (by kernel_rfl) (by kernel_rfl) (by kernel_rfl) (by kernel_rfl) (fun _ _ _ h => h) (Or.inl ⟨by rfl, ?_⟩) hHeld ?_; rotate_left; focus (intro wq hSw; obtain ⟨hcq, hfq⟩ := bcell hSw; go_simp; (try with_reducible rfl); done))
              (try simp only [Act.put, List.setIfInBounds_toArray, List.set_cons_zero, List.set_cons_succ])
              first | (refine anyT_take 15 (some 40) rfl rfl (by kernel_rfl) (by kernel_rfl) (by kernel_rfl) (by kernel_rfl) (fun _ _ _ h => h) (Or.inr ⟨by rfl, rfl⟩) hHeld ?_) | (refine anyT_take 15 (some 40) (v := ?_) rfl rfl (by kernel_rfl) (by kernel_rfl) (by kernel_rfl) (by kernel_rfl) (fun _ _ _ h => h) (Or.inl ⟨by rfl, ?_⟩) hHeld ?_; rotate_left; focus (intro wq hSw; obtain ⟨hcq, hfq⟩ := bcell hSw; go_simp; (try with_reducible rfl); done))
              (try simp only [Act.put, List.setIfInBounds_toArray, List.set_cons_zero, List.set_cons_succ])
              first | (refine anyT_take 16 (some 41) rfl rfl (by kernel_rfl) (by kernel_rfl) (by kernel_rfl) (by kernel_rfl) (fun _ _ _ h => h) (Or.inr ⟨by rfl, rfl⟩) hHeld ?_) | (refine anyT_take 16 (some 41) (v := ?_) rfl rfl (by kernel_rfl) (by kernel_rfl) (by kernel_rfl) (by kernel_rfl) (fun _ _ _ h => h) (Or.inl ⟨by rfl, ?_⟩) hHeld ?_; rotate_left; focus (intro wq hSw; obtain ⟨hcq, hfq⟩ := bcell hSw; go_simp; (try with_reducible rfl); done))
              (try simp only [Act.put, List.setIfInBounds_toArray, List.set_cons_zero, List.set_cons_succ])
              refine anyT_one 17 (by kernel_rfl) rfl (fun K hK => ?_)
              go_simp
              refine (Plain_calls _ _ (by omega) (by omega)).mono ?_; rintro e w5 ⟨rfl, rfl⟩
              refine hK.out _ _ ?_ (fun hHeld => ?_)
              · exact hHeld
              clear hK K
              (try simp only [Act.put, List.setIfInBounds_toArray, List.set_cons_zero, List.set_cons_succ])
              first | (refine anyT_take 18 (some 43) rfl rfl (by kernel_rfl) (by kernel_rfl) (by kernel_rfl) (by kernel_rfl) (fun _ _ _ h => h) (Or.inr ⟨by rfl, rfl⟩) hHeld ?_) | (refine anyT_take 18 (some 43) (v := ?_) rfl rfl (by kernel_rfl) (by kernel_rfl) (by kernel_rfl) (by kernel_rfl) (fun _ _ _ h => h) (Or.inl ⟨by rfl, ?_⟩) hHeld ?_; rotate_left; focus (intro wq hSw; obtain ⟨hcq, hfq⟩ := bcell hSw; go_simp; (try with_reducible rfl); done))
              (try simp only [Act.put, List.setIfInBounds_toArray, List.set_cons_zero, List.set_cons_succ])
              first | (refine anyT_take 19 (some 44) (v := ?_) rfl rfl (by kernel_rfl) (by kernel_rfl) (by kernel_rfl) (by kernel_rfl) (fun _ _ _ h => h) (Or.inl ⟨by rfl, ?_⟩) hHeld ?_; rotate_left; focus (intro wq hSw; obtain ⟨hcq, hfq⟩ := bcell hSw; go_simp; (try with_reducible rfl); done))
              (try simp only [Act.put, List.setIfInBounds_toArray, List.set_cons_zero, List.set_cons_succ])
              refine anyT_done (by kernel_rfl) ?_ _
              have hfin := below_then HB.out HB.out.size hHeld
              clear hHeld
              go_wp2
              go_roundg (path.length - (k + 1))
              case measure => have := Hgk.out; omega
              case rel => exact ⟨k + 1, by omega, by omega, rfl, by go_num, Hs.out, hfin⟩
        · obtain rfl : k = path.length := by omega
          have Hf := Lib.hid (isPathS_true Hlen.out H0.out Hall.out)
          go_wp2
          go_ret
          exact ⟨(by rw [Hf.out]; rfl), HB.out⟩
    · have h0b : (gi path 0 != B.start) = true := by rw [bne_iff_ne]; exact h0
      have Hf := Lib.hid (isPathS_ne (parts := B.parts) h0)
      clear h0
      unfold BookV.val BookV.cells
      go_enter Tryd.func60, Tryd.ntmps60
      go_wp2
      go_quiet (fail)
      go_wp2
      go_ret
      exact ⟨(by rw [Hf.out]; rfl), below_drewN ((Below.refl _ _).alloc (Nat.le_refl _) _) _⟩
  · have hb : ((path.length : Int) != B.parts) = true := by rw [bne_iff_ne]; exact hl
    have Hf : Hid (isPathS B.parts B.start path = false) := by unfold Hid; simp [isPathS, hl]
    clear hl hp g
    unfold BookV.val BookV.cells
    go_enter Tryd.func60, Tryd.ntmps60
    go_wp2
    go_quiet (fail)
    go_wp2
    go_ret
    exact ⟨(by rw [Hf.out]; rfl), below_drewN ((Below.refl _ _).alloc (Nat.le_refl _) _) _⟩
end
end Go.Proofs.YtljikigmfkfkiaaDoor
namespace Go.Proofs.YtljikigmfkfkiaaDoor
section
open Go.RowKit Go.Shelf
attribute [local go_sem] Oper.semAt_some
set_option linter.unusedSimpArgs false
set_option linter.unusedVariables false

set_option maxRecDepth 100000 in
set_option maxHeartbeats 1000000 in
theorem refLasts_calls (B : BookV) (g : B.Good) (A : Option Addr) (c : Nat) (path : List Int) (hp : IsPath B path) (w : World) (hpa : IntsAt w A path) (hbe : IntsAt w B.bA B.beats) :
    Calls Tryd.prog 61 #[B.val, .slice A path.length c] w fun e w' => e = .returned (.int .i64 (timeTo B path path.length)) ∧ Below w.heap.size w w' := by
  have hl := hp.len
  have hpp := g.parts
  have hpl := hpa.1
  obtain ⟨b, o, rfl, hc⟩ := hpa.2.resolve_left (by intro h; rw [h] at hl; simp at hl; omega)
  have hbl := g.beatsLen
  obtain ⟨b2, o2, e2, hc2⟩ := hbe.2.resolve_left (by intro h; rw [h] at hbl; simp at hbl)
  have Hc := Lib.hid hc
  have Hc2 := Lib.hid hc2
  have Hg := Lib.hid g
  have Hp := Lib.hid hp
  have Hbl := Lib.hid hbl
  clear hc hc2 hl hpp g hp hpa hbe
  unfold BookV.val BookV.cells
  rw [e2, hbl]
  clear e2 hbl
  go_enter Tryd.func61, Tryd.ntmps61
  go_upto_block 0 with (fail)
  have k2 := BoxAt.new w #[.int .i64 B.parts, .int .i64 B.size, .slice (some ⟨b2, o2, none⟩) 4 B.bCap, .int .i64 B.start, .int .i64 B.fin, .int .i64 B.tlo, .int .i64 B.thi, .int .i64 B.slo, .int .i64 B.shi, .int .i64 B.notice, .slice B.pA B.players.length B.pCap] 27
  have H2 : Below w.heap.size w (w.alloc (.cells #[.int .i64 B.parts, .int .i64 B.size, .slice (some ⟨b2, o2, none⟩) 4 B.bCap, .int .i64 B.start, .int .i64 B.fin, .int .i64 B.tlo, .int .i64 B.thi, .int .i64 B.slo, .int .i64 B.shi, .int .i64 B.notice, .slice B.pA B.players.length B.pCap] 27)) := (Below.refl _ _).alloc (Nat.le_refl _) _
  generalize w.alloc (.cells #[.int .i64 B.parts, .int .i64 B.size, .slice (some ⟨b2, o2, none⟩) 4 B.bCap, .int .i64 B.start, .int .i64 B.fin, .int .i64 B.tlo, .int .i64 B.thi, .int .i64 B.slo, .int .i64 B.shi, .int .i64 B.notice, .slice B.pA B.players.length B.pCap] 27) = w2 at *
  have K2 := Lib.hid k2
  clear k2
  go_wp2
  go_loopg [6, 5] path.length (fun gk i s wr => ∃ k : Nat, k ≤ path.length ∧ gk = path.length - k ∧ i = .int .i64 k ∧ s = .int .i64 (timeTo B path k) ∧ Below w2.heap.size w2 wr)
  case atStart => exact ⟨0, Nat.zero_le _, rfl, rfl, rfl, Below.refl _ _⟩
  case round =>
    obtain ⟨k, hk, hgk, rfl, rfl, hB⟩ := hrel
    have Hgk := Lib.hid hgk
    clear hgk
    have HB := below_then H2 H2.size hB
    have hbd := timeTo_bd Hg.out Hp.out k
    have hlen : path.length ≤ 8 := by have := Hp.out.len; have := Hg.out.parts; omega
    by_cases hlt : k < path.length
    · obtain ⟨c2, f2, l2⟩ := K2.out.below hB
      have hck := cell_below HB (Hc.out k hlt)
      obtain ⟨lv, hlv⟩ := Int.eq_ofNat_of_zero_le (gi_path Hp.out k).1
      have hlv4 : lv < 4 := by have := (gi_path Hp.out k).2; omega
      have hlvi : (lv : Int) < 4 := by omega
      have hcb := cell_below HB (Hc2.out lv (by rw [Hbl.out]; omega))
      have hst : Hid (timeTo B path (k + 1) = timeTo B path k + B.size * gi B.beats lv) := by unfold Hid; rw [timeTo, hlv, Int.toNat_natCast]
      rw [hlv] at hck
      have h3 := Hg.out.beats lv hlv4
      have h4 := Hg.out.size
      have h5 : 0 ≤ B.size * gi B.beats lv := Int.mul_nonneg (by omega) (by omega)
      have h6 : B.size * gi B.beats lv ≤ 16 * 1000 := Int.mul_le_mul h4.2 h3.2 (by omega) (by omega)
      have hw1 : IntKind.i64.wrap (B.size * gi B.beats lv) = B.size * gi B.beats lv := wrap_in (by omega) (by omega)
      have hw2 : IntKind.i64.wrap (timeTo B path k + B.size * gi B.beats lv) = timeTo B path k + B.size * gi B.beats lv := wrap_in (by omega) (by omega)
      have b1 := World.block_lt_of_cell? _ _ hck
      have b3 := World.block_lt_of_cell? _ _ hcb
      simp only at b1 b3
      have hki : (k : Int) < path.length := by omega
      have Hlv := Lib.hid hlv
      clear hlv
      go_wp2
      go_quiet (fail)
      go_wp2
      go_roundg (path.length - (k + 1))
      case measure => have := Hgk.out; omega
      case rel => exact ⟨k + 1, by omega, rfl, by go_num, by rw [hst.out], below_drewN hB _⟩
    · obtain rfl : k = path.length := by omega
      go_wp2
      go_ret
      exact ⟨rfl, HB⟩

/-- a player, as a value -/
def playerV (p : PlayerV) : Value := .agg #[.int .i64 p.lo, .int .i64 p.hi, .slice p.cA p.catches.length p.cCap]
theorem BoxAt.belowN {n : Nat} {w w1 : World} {b : Nat} {cs : Array Value} (h : BoxAt w b cs) (hb : Below n w w1) (hn : b < n) : BoxAt w1 b cs :=
  ⟨fun i => (hb.cell (p := ⟨b, i, none⟩) hn).trans (h.cell i), fun i => (hb.frozen (p := ⟨b, i, none⟩) hn).trans (h.frozen i), Nat.lt_of_lt_of_le h.lt hb.size⟩
def markB (B : BookV) (path : List Int) (k : Nat) : Bool := decide (k % B.size.toNat = 0) && decide (0 < partOf B.size k) && decide (gi path (partOf B.size k) ≠ gi path (partOf B.size k - 1))
theorem slipAt_mark (B : BookV) (path : List Int) (hi : Bool) (k : Nat) : slipAt B path hi k = bif markB B path k then endOf hi B.slo B.shi else 0 := by
  unfold slipAt markB
  by_cases h1 : k % B.size.toNat = 0 <;> by_cases h2 : 0 < partOf B.size k <;> by_cases h3 : gi path (partOf B.size k) = gi path (partOf B.size k - 1) <;> simp [h1, h2, h3]
set_option maxRecDepth 100000 in
set_option maxHeartbeats 4000000 in
theorem refLate_calls (B : BookV) (g : B.Good) (A : Option Addr) (c : Nat) (path : List Int) (hp : IsPath B path) (j n : Nat) (hj : j < B.players.length) (hn : n ≤ (B.parts * B.size).toNat) (w : World)
    (hpl : PlayersAt w B.pA B.players) (hpa : IntsAt w A path) :
    Calls Tryd.prog 69 #[B.val, .slice A path.length c, playerV (gp B.players j), .int .i64 n] w fun e w' => e = .returned (spanV (lateTo B path (gp B.players j) false n) (lateTo B path (gp B.players j) true n)) ∧ Below w.heap.size w w' := by
  have hgj := g.late j hj
  have hcl := g.catchLen j hj
  have hcb := g.catches j hj
  obtain ⟨hsp, hsc⟩ := hpl.2.2 _ (gp_mem hj)
  have Hbd : Hid (∀ k, (0 ≤ lateTo B path (gp B.players j) false k ∧ lateTo B path (gp B.players j) false k ≤ 500 + 100 * k) ∧ (0 ≤ lateTo B path (gp B.players j) true k ∧ lateTo B path (gp B.players j) true k ≤ 500 + 100 * k)) :=
    fun k => ⟨lateTo_bd g path _ false hgj (fun k => (catchAt_bd g hp hj false k).1) k, lateTo_bd g path _ true hgj (fun k => (catchAt_bd g hp hj true k).1) k⟩
  generalize gp B.players j = p at *
  have hpos := hp.pos g
  obtain ⟨b, o, rfl, hpc⟩ := hpa.2.resolve_left (by intro h; rw [h] at hpos; simp at hpos)
  obtain ⟨plo, phi, pcA, pcC, pct⟩ := p
  simp only at hgj hcl hcb hsp hsc
  obtain ⟨cb, co, rfl, hcc⟩ := hsp.2.resolve_left (by intro h; rw [h] at hcl; simp at hcl)
  have hnn : n ≤ 128 := by have := parts_size g; omega
  have hlp := hpa.1
  have Hg := Lib.hid g
  have Hp := Lib.hid hp
  have Hn := Lib.hid hn
  have Hpc := Lib.hid hpc
  have Hcc := Lib.hid hcc
  have Hcb := Lib.hid hcb
  have Hcl := Lib.hid hcl
  have hplen : path.length ≤ 8 := by have := hp.len; have := g.parts; omega
  clear g hp hn hpa hpc hcc hcb hsp hpl hj hcl hpos
  unfold BookV.val BookV.cells playerV
  simp only
  rw [Hcl.out] at hsc ⊢
  go_enter Tryd.func69, Tryd.ntmps69
  go_upto_block 0 with (fail)
  have k4 := (((BoxAt.new w B.cells 27).alloc (.cells #[.int .i64 plo, .int .i64 phi, .slice (some ⟨cb, co, none⟩) 4 pcC] 68)).alloc (.cells #[.int .i64 0, .int .i64 0] 24)).alloc (.cells #[.int .i64 plo, .int .i64 phi] 24)
  have k6 := ((BoxAt.new (w.alloc (.cells B.cells 27)) #[.int .i64 plo, .int .i64 phi, .slice (some ⟨cb, co, none⟩) 4 pcC] 68).alloc (.cells #[.int .i64 0, .int .i64 0] 24)).alloc (.cells #[.int .i64 plo, .int .i64 phi] 24)
  have k8 := (BoxAt.new ((w.alloc (.cells B.cells 27)).alloc (.cells #[.int .i64 plo, .int .i64 phi, .slice (some ⟨cb, co, none⟩) 4 pcC] 68)) #[.int .i64 0, .int .i64 0] 24).alloc (.cells #[.int .i64 plo, .int .i64 phi] 24)
  have k9 := BoxAt.new (((w.alloc (.cells B.cells 27)).alloc (.cells #[.int .i64 plo, .int .i64 phi, .slice (some ⟨cb, co, none⟩) 4 pcC] 68)).alloc (.cells #[.int .i64 0, .int .i64 0] 24)) #[.int .i64 plo, .int .i64 phi] 24
  have hW : Below w.heap.size w ((((w.alloc (.cells B.cells 27)).alloc (.cells #[.int .i64 plo, .int .i64 phi, .slice (some ⟨cb, co, none⟩) 4 pcC] 68)).alloc (.cells #[.int .i64 0, .int .i64 0] 24)).alloc (.cells #[.int .i64 plo, .int .i64 phi] 24)) := ((((Below.refl _ _).alloc (Nat.le_refl _) _).alloc (by simp) _).alloc (by simp; omega) _).alloc (by simp; omega) _
  simp only [World.size_alloc] at k4 k6 k8 k9
  unfold BookV.cells at k4 k6 k8 k9 hW
  generalize (((w.alloc _).alloc _).alloc _).alloc _ = W3 at *
  have K4 := Lib.hid k4
  have K6 := Lib.hid k6
  have K8 := Lib.hid k8
  have K9 := Lib.hid k9
  have hl9 := k9.lt
  clear k4 k6 k8 k9
  go_wp2
  go_loopg [10] n (fun gk i wr => ∃ k : Nat, k ≤ n ∧ gk = n - k ∧ i = .int .i64 k ∧ Below (w.heap.size + 1 + 1 + 1) W3 wr ∧ BoxAt wr (w.heap.size + 1 + 1 + 1) #[.int .i64 (lateTo B path ⟨plo, phi, some ⟨cb, co, none⟩, pcC, pct⟩ false k), .int .i64 (lateTo B path ⟨plo, phi, some ⟨cb, co, none⟩, pcC, pct⟩ true k)])
  case atStart => exact ⟨0, Nat.zero_le _, rfl, rfl, Below.refl _ _, K9.out⟩
  case round =>
    obtain ⟨k, hk, hgk, rfl, hB, h9⟩ := hrel
    have Hgk := Lib.hid hgk
    have HB := Lib.hid hB
    have H9 := Lib.hid h9
    clear hgk hB
    have hb0 : Below w.heap.size w wr := hW.trans (HB.out.mono (by omega))
    have HB0 := Lib.hid hb0
    clear hb0
    by_cases hlt : k < n
    · have hq := part_lt Hg.out Hp.out.len hlt Hn.out
      have hrg := Hp.out.range _ hq
      obtain ⟨lv, hlv⟩ := Int.eq_ofNat_of_zero_le hrg.1
      have hlv4 : lv < 4 := by omega
      have hlvi : (lv : Int) < 4 := by omega
      have hsz := Hg.out.size
      have hsl := Hg.out.slip
      obtain ⟨⟨hL0, hL1⟩, hH0, hH1⟩ := Hbd.out k
      have hrm : (k : Int) % B.size = ((k % B.size.toNat : Nat) : Int) := by
        rw [Int.natCast_emod, Int.toNat_of_nonneg (by omega)]
      have hdv : (k : Int) / B.size = ((partOf B.size k : Nat) : Int) := (div_nat hsz.1).symm
      have hsz0 : ¬ B.size = 0 := by omega
      have hd0 : 0 ≤ (k : Int) / B.size := Int.ediv_nonneg (by omega) (by omega)
      have hd1 : (k : Int) / B.size ≤ 128 := Int.le_trans (Int.ediv_le_self _ (by omega)) (by omega)
      have Hsf := Lib.hid (slipAt_mark B path false k)
      have Hst := Lib.hid (slipAt_mark B path true k)
      obtain ⟨hc0, hc1⟩ := Hcc.out lv (by rw [Hcl.out]; exact hlv4)
      obtain ⟨hb0, hb1, hb2⟩ := Hcb.out lv hlv4
      have Hcf : Hid (catchAt B path ⟨plo, phi, some ⟨cb, co, none⟩, pcC, pct⟩ false k = (gs pct lv).2) := by unfold Hid catchAt; rw [hlv]; simp [endOf]
      have Hct : Hid (catchAt B path ⟨plo, phi, some ⟨cb, co, none⟩, pcC, pct⟩ true k = (gs pct lv).1) := by unfold Hid catchAt; rw [hlv]; simp [endOf]
      have Hlf : Hid (lateTo B path ⟨plo, phi, some ⟨cb, co, none⟩, pcC, pct⟩ false (k + 1) = max 0 (lateTo B path ⟨plo, phi, some ⟨cb, co, none⟩, pcC, pct⟩ false k + slipAt B path false k - (gs pct lv).2)) := by unfold Hid; rw [← Hcf.out]; rfl
      have Hlt : Hid (lateTo B path ⟨plo, phi, some ⟨cb, co, none⟩, pcC, pct⟩ true (k + 1) = max 0 (lateTo B path ⟨plo, phi, some ⟨cb, co, none⟩, pcC, pct⟩ true k + slipAt B path true k - (gs pct lv).1)) := by unfold Hid; rw [← Hct.out]; rfl
      generalize (gs pct lv).1 = x1 at *
      generalize (gs pct lv).2 = x2 at *
      generalize lateTo B path ⟨plo, phi, some ⟨cb, co, none⟩, pcC, pct⟩ false k = L at *
      generalize lateTo B path ⟨plo, phi, some ⟨cb, co, none⟩, pcC, pct⟩ true k = H at *
      have Hhc0 := Lib.hid hc0
      have Hhc1 := Lib.hid hc1
      obtain ⟨c4, f4, l4⟩ := K4.out.belowN HB.out (by omega)
      have hpq := cell_below HB0.out (Hpc.out _ hq)
      have hpq' := cell_below HB0.out (Hpc.out (partOf B.size k - 1) (by omega))
      have pbl := World.block_lt_of_cell? _ _ hpq
      simp only at pbl
      have Hlv := Lib.hid hlv
      have Hq := Lib.hid hq
      clear hc0 hc1 hlv h9 hrg
      go_upto_region 6 with (fail)
      go_cut [44] (fun s w3 => s = .bool (markB B path k) ∧ Below wr.heap.size wr w3)
      case first =>
        have Hmk : Hid (markB B path k = (decide (k % B.size.toNat = 0) && decide (0 < partOf B.size k) && decide (gi path (partOf B.size k) ≠ gi path (partOf B.size k - 1)))) := rfl
        clear hd0 hd1 hdv
        generalize markB B path k = mk at *
        generalize partOf B.size k = q at *
        have hqp : (q : Int) - 1 < (path.length : Int) := by omega
        have hqi : (q : Int) < (path.length : Int) := by omega
        by_cases hm0 : k % B.size.toNat = 0
        · have hrb : ((k : Int) % B.size == 0) = true := by rw [hrm, hm0]; rfl
          by_cases hm1 : 0 < q
          · have hd : (0 : Int) < (q : Int) := by omega
            have hq1 : ((q : Int) - 1).toNat = q - 1 := by omega
            have hq1i : (1 : Int) ≤ (q : Int) := by omega
            have hwq : IntKind.i64.wrap ((q : Int) - 1) = (q : Int) - 1 := wrap_in (by omega) (by omega)
            by_cases hm2 : gi path q = gi path (q - 1)
            · have hbe : (gi path q != gi path (q - 1)) = false := by rw [bne_eq_false_iff_eq]; exact hm2
              have hmk : mk = false := by rw [Hmk.out]; simp [hm2]
              have Hmk2 := Lib.hid hmk
              clear hmk hm2 hrm hm0
              go_wp2
              go_quiet (fail)
              go_wp2
              go_meet
              exact ⟨by rw [Hmk2.out], below_drewN (Below.refl _ _) _⟩
            · have hbe : (gi path q != gi path (q - 1)) = true := by rw [bne_iff_ne]; exact hm2
              have hmk : mk = true := by rw [Hmk.out]; simp [hm2, hm0, hm1]
              have Hmk2 := Lib.hid hmk
              clear hmk hm2 hrm hm0
              go_wp2
              go_quiet (fail)
              go_wp2
              go_meet
              exact ⟨by rw [Hmk2.out], below_drewN (Below.refl _ _) _⟩
          · have hd : ¬ (0 : Int) < (q : Int) := by omega
            have hmk : mk = false := by rw [Hmk.out]; simp [hm1]
            have Hmk2 := Lib.hid hmk
            clear hmk hrm hm0 hqp hqi
            obtain rfl : q = 0 := by omega
            clear hd hm1
            go_wp2
            go_quiet (fail)
            go_wp2
            go_meet
            exact ⟨by rw [Hmk2.out], below_drewN (Below.refl _ _) _⟩
        · have hrb : ((k : Int) % B.size == 0) = false := by rw [hrm, beq_eq_false_iff_ne]; omega
          have hmk : mk = false := by rw [Hmk.out]; simp [hm0]
          have Hmk2 := Lib.hid hmk
          clear hmk hrm hm0
          go_wp2
          go_quiet (fail)
          go_wp2
          go_meet
          exact ⟨by rw [Hmk2.out], below_drewN (Below.refl _ _) _⟩
      case rest =>
        obtain ⟨rfl, hbq⟩ := hcut
        have HB2 := Lib.hid (HB.out.trans (hbq.mono (by have := HB.out.size; omega)))
        have H92 := Lib.hid (H9.out.below hbq)
        clear hbq c4 f4 l4 hpq hpq' pbl
        generalize wc = w3 at *
        obtain ⟨c4, f4, l4⟩ := K4.out.belowN HB2.out (by omega)
        go_step
        go_cut [44] (fun s w5 => Below (w.heap.size + 1 + 1 + 1) W3 w5 ∧ BoxAt w5 (w.heap.size + 1 + 1 + 1) #[.int .i64 (L + slipAt B path false k), .int .i64 (H + slipAt B path true k)])
        case first =>
          generalize hmk : markB B path k = mk at *
          cases mk with
          | false =>
            go_wp2
            go_meet
            exact ⟨HB2.out, by rw [Hsf.out, Hst.out]; simpa using H92.out⟩
          | true =>
            have hw1 : IntKind.i64.wrap (L + B.slo) = L + B.slo := wrap_in (by omega) (by omega)
            have hw2 : IntKind.i64.wrap (H + B.shi) = H + B.shi := wrap_in (by omega) (by omega)
            obtain ⟨c9, f9, l9⟩ := H92.out
            go_wp2_with (go_at_call 49; refine (Band_calls _ _ _).mono ?_; rintro e w5 ⟨rfl, hb⟩; obtain ⟨c9', f9', l9'⟩ := H92.out.below hb)
            go_meet
            have hs := box_store2 ⟨c9', f9', l9'⟩ rfl (.int .i64 (L + B.slo)) (.int .i64 (H + B.shi))
            exact ⟨(HB2.out.trans (hb.mono (by omega))).trans (hs.2 _ (Nat.le_refl _)), by rw [Hsf.out, Hst.out]; simpa [endOf] using hs.1⟩
        case rest =>
          obtain ⟨hb5, h95⟩ := hcut
          clear c4 f4 l4
          generalize wc = w5 at *
          have HB5 := Lib.hid hb5
          have H95 := Lib.hid h95
          have HBw := Lib.hid (hW.trans (hb5.mono (by omega)))
          clear hb5 h95
          have hs1 := slipAt_bd Hg.out path false k
          have hs2 := slipAt_bd Hg.out path true k
          have hpq := cell_below HBw.out (Hpc.out _ Hq.out)
          rw [Hlv.out] at hpq
          have hc0 := cell_below HBw.out Hhc0.out
          have hc1 := cell_below HBw.out Hhc1.out
          have pbl := World.block_lt_of_cell? _ _ hpq
          have cbl := World.block_lt_of_cell? _ _ hc0
          simp only at pbl cbl
          have hqi : ((partOf B.size k : Nat) : Int) < (path.length : Int) := by have := Hq.out; omega
          obtain ⟨c6, f6, l6⟩ := K6.out.belowN HB5.out (by omega)
          clear Hsf Hst hrm hdv hd0 hd1
          generalize slipAt B path false k = s1 at *
          generalize slipAt B path true k = s2 at *
          generalize partOf B.size k = q at *
          go_upto_region 8 with (fail)
          refine region_plain (S := fun w' => Below w5.heap.size w5 w') 9 (by kernel_rfl) ?_ (fun hHeld => ?_)
          · exact (Below.refl _ _).drew
          first | (refine anyT_take 0 (some 58) (v := ?_) rfl rfl (by kernel_rfl) (by kernel_rfl) (by kernel_rfl) (by kernel_rfl) (fun _ _ _ h => h) (Or.inl ⟨by rfl, ?_⟩) hHeld ?_; rotate_left; focus (intro wq hSw; obtain ⟨hcq, hfq⟩ := bcell hSw; go_simp; (try with_reducible rfl); done))
          (try simp only [Act.put, List.setIfInBounds_toArray, List.set_cons_zero, List.set_cons_succ])
          first | (refine anyT_take 1 (some 59) (v := ?_) rfl rfl (by kernel_rfl) (by kernel_rfl) (by kernel_rfl) (by kernel_rfl) (fun _ _ _ h => h) (Or.inl ⟨by rfl, ?_⟩) hHeld ?_; rotate_left; focus (intro wq hSw; obtain ⟨hcq, hfq⟩ := bcell hSw; go_simp; (try with_reducible rfl); done))
          (try simp only [Act.put, List.setIfInBounds_toArray, List.set_cons_zero, List.set_cons_succ])
          first | (refine anyT_take 2 (some 60) (v := ?_) rfl rfl (by kernel_rfl) (by kernel_rfl) (by kernel_rfl) (by kernel_rfl) (fun _ _ _ h => h) (Or.inl ⟨by rfl, ?_⟩) hHeld ?_; rotate_left; focus (intro wq hSw; obtain ⟨hcq, hfq⟩ := bcell hSw; go_simp; (try with_reducible rfl); done))
          (try simp only [Act.put, List.setIfInBounds_toArray, List.set_cons_zero, List.set_cons_succ])
          first | (refine anyT_take 3 (some 61) (v := ?_) rfl rfl (by kernel_rfl) (by kernel_rfl) (by kernel_rfl) (by kernel_rfl) (fun _ _ _ h => h) (Or.inl ⟨by rfl, ?_⟩) hHeld ?_; rotate_left; focus (intro wq hSw; obtain ⟨hcq, hfq⟩ := bcell hSw; go_simp; (try with_reducible rfl); done))
          (try simp only [Act.put, List.setIfInBounds_toArray, List.set_cons_zero, List.set_cons_succ])
          first | (refine anyT_take 4 (some 62) (v := ?_) rfl rfl (by kernel_rfl) (by kernel_rfl) (by kernel_rfl) (by kernel_rfl) (fun _ _ _ h => h) (Or.inl ⟨by rfl, ?_⟩) hHeld ?_; rotate_left; focus (intro wq hSw; obtain ⟨hcq, hfq⟩ := bcell hSw; go_simp; (try with_reducible rfl); done))
          (try simp only [Act.put, List.setIfInBounds_toArray, List.set_cons_zero, List.set_cons_succ])
          first | (refine anyT_take 5 (some 63) (v := ?_) rfl rfl (by kernel_rfl) (by kernel_rfl) (by kernel_rfl) (by kernel_rfl) (fun _ _ _ h => h) (Or.inl ⟨by rfl, ?_⟩) hHeld ?_; rotate_left; focus (intro wq hSw; obtain ⟨hcq, hfq⟩ := bcell hSw; go_simp; (try with_reducible rfl); done))
          (try simp only [Act.put, List.setIfInBounds_toArray, List.set_cons_zero, List.set_cons_succ])
          first | (refine anyT_take 6 (some 64) (v := ?_) rfl rfl (by kernel_rfl) (by kernel_rfl) (by kernel_rfl) (by kernel_rfl) (fun _ _ _ h => h) (Or.inl ⟨by rfl, ?_⟩) hHeld ?_; rotate_left; focus (intro wq hSw; obtain ⟨hcq, hfq⟩ := bcell hSw; go_simp; (try with_reducible rfl); done))
          (try simp only [Act.put, List.setIfInBounds_toArray, List.set_cons_zero, List.set_cons_succ])
          first | (refine anyT_take 7 (some 65) (v := ?_) rfl rfl (by kernel_rfl) (by kernel_rfl) (by kernel_rfl) (by kernel_rfl) (fun _ _ _ h => h) (Or.inl ⟨by rfl, ?_⟩) hHeld ?_; rotate_left; focus (intro wq hSw; obtain ⟨hcq, hfq⟩ := bcell hSw; go_simp; (try with_reducible rfl); done))
          (try simp only [Act.put, List.setIfInBounds_toArray, List.set_cons_zero, List.set_cons_succ])
          refine anyT_one 8 (by kernel_rfl) rfl (fun K hK => ?_)
          go_simp
          refine hK.out _ _ ?_ (fun hHeld => ?_)
          · exact hHeld.alloc hHeld.size _
          clear hK K
          (try simp only [Act.put, List.setIfInBounds_toArray, List.set_cons_zero, List.set_cons_succ])
          refine anyT_last (by kernel_rfl) rfl (fun K hK => ?_)
          go_simp
          refine hK.out _ _ ?_
          clear hK K
          (try simp only [Act.put, List.setIfInBounds_toArray, List.set_cons_zero, List.set_cons_succ])
          refine anyT_done (by kernel_rfl) ?_ _
          have hb7 : Below w5.heap.size w5 (w5.alloc (.cells #[.int .i64 x1, .int .i64 x2] 24)).drew := ((Below.refl _ _).alloc (Nat.le_refl _) _).drew
          have k12 := (BoxAt.new w5 #[.int .i64 x1, .int .i64 x2] 24).below (Below.refl _ _).drew
          have k9 := H95.out.below hb7
          have HB7 := Lib.hid (HB5.out.trans (hb7.mono (by have := K9.out.lt; have := HB5.out.size; omega)))
          clear hHeld hb7 hpq hc0 hc1 c6 f6 l6
          generalize (w5.alloc _).drew = W7 at *
          have hl9' := H95.out.lt
          have K97 := Lib.hid k9
          obtain ⟨c12, f12, l12⟩ := k12
          obtain ⟨c9, f9, l9⟩ := k9
          have hw1 : IntKind.i64.wrap (L + s1 - x2) = L + s1 - x2 := wrap_in (by omega) (by omega)
          have hw2 : IntKind.i64.wrap (H + s2 - x1) = H + s2 - x1 := wrap_in (by omega) (by omega)
          rcases Int.lt_or_le x2 (L + s1) with h1 | h1 <;> rcases Int.lt_or_le x1 (H + s2) with h2 | h2
          all_goals
            go_wp2_with (go_at_call 49; refine (Band_calls _ _ _).mono ?_; rintro e w8 ⟨rfl, hb⟩; obtain ⟨c9', f9', l9'⟩ := K97.out.below hb)
            have hs := fun v0 v1 => box_store2 ⟨c9', f9', l9'⟩ rfl v0 v1
            have e1 : (max 0 (L + s1 - x2) = L + s1 - x2 ∧ x2 < L + s1) ∨ (max 0 (L + s1 - x2) = 0 ∧ L + s1 ≤ x2) := by omega
            have e2 : (max 0 (H + s2 - x1) = H + s2 - x1 ∧ x1 < H + s2) ∨ (max 0 (H + s2 - x1) = 0 ∧ H + s2 ≤ x1) := by omega
            go_roundg (n - (k + 1))
            case measure => have := Hgk.out; omega
            case rel => exact ⟨k + 1, by omega, rfl, by go_num, (HB7.out.trans (hb.mono (by omega))).trans ((hs _ _).2 _ (Nat.le_refl _)), by
              rw [Hlf.out, Hlt.out]
              rcases e1 with ⟨e1, hh1⟩ | ⟨e1, hh1⟩ <;> rcases e2 with ⟨e2, hh2⟩ | ⟨e2, hh2⟩ <;> first | (exfalso; omega) | (rw [e1, e2]; exact (hs _ _).1)⟩
    · obtain rfl : k = n := by omega
      obtain ⟨c9, f9, l9⟩ := h9
      have k8 := K8.out.belowN HB.out (by omega)
      have hs := (box_store2 k8 rfl (.int .i64 (lateTo B path ⟨plo, phi, some ⟨cb, co, none⟩, pcC, pct⟩ false k)) (.int .i64 (lateTo B path ⟨plo, phi, some ⟨cb, co, none⟩, pcC, pct⟩ true k)))
      obtain ⟨c8, f8, l8⟩ := k8
      go_wp2
      have cs := hs.1.cell
      exact bodyPost_ret (v := spanV (lateTo B path ⟨plo, phi, some ⟨cb, co, none⟩, pcC, pct⟩ false k) (lateTo B path ⟨plo, phi, some ⟨cb, co, none⟩, pcC, pct⟩ true k)) (by simp [results, Tryd.results69, go_sem, cs, spanV]) rfl ⟨rfl, HB0.out.trans (hs.2 _ (by omega))⟩
end
end Go.Proofs.YtljikigmfkfkiaaDoor
namespace Go.Proofs.YtljikigmfkfkiaaDoor
section
open Go.RowKit Go.Shelf
attribute [local go_sem] Oper.semAt_some
set_option linter.unusedSimpArgs false
set_option linter.unusedVariables false

set_option maxRecDepth 100000 in
set_option maxHeartbeats 1000000 in
theorem refTime_calls (B : BookV) (A : Option Addr) (c : Nat) (path : List Int) (w : World) (hB : B.Reads w) (hp : IntsAt w A path) :
    Calls Tryd.prog 17 #[B.val, .slice A path.length c] w fun e w' => e = .returned (timeR B path) ∧ Below w.heap.size w w' := by
  have HB := Lib.hid hB
  have HP := Lib.hid hp
  have Hb : Below w.heap.size w (w.alloc (.cells B.cells 27)) := (Below.refl _ _).alloc (Nat.le_refl _) _
  have K2 := Lib.hid (BoxAt.new w B.cells 27)
  clear hB hp
  have Hr : Hid (timeR B path = bif goodB B then (bif isPathS B.parts B.start path then .tuple #[.int .i64 (timeTo B path path.length), .int .i64 0] else .tuple #[.int .i64 0, .int .i64 81]) else .tuple #[.int .i64 0, .int .i64 80]) := rfl
  cases hg : goodB B with
  | false =>
    have Hg := Lib.hid hg
    unfold BookV.val BookV.cells
    go_enter Tryd.func17, Tryd.ntmps17
    go_wp2_with fail
    refine (eq0_1 (v' := B.val) (by unfold BookV.val BookV.cells; rfl) (refCheck_calls B _ (HB.out.below Hb))).mono ?_
    rintro e w1 ⟨rfl, hb⟩
    rw [Hg.out, cond_false]
    have H1 := below_then Hb Hb.size hb
    clear hb hg
    go_wp2
    go_ret2
    exact ⟨by rw [Hr.out, Hg.out]; rfl, H1⟩
  | true =>
    have Hg := Lib.hid hg
    have g := Lib.hid ((goodB_iff B).1 hg)
    clear hg
    cases hi : isPathS B.parts B.start path with
    | false =>
      have Hi := Lib.hid hi
      clear hi
      unfold BookV.val BookV.cells
      go_enter Tryd.func17, Tryd.ntmps17
      go_wp2_with fail
      refine (eq0_1 (v' := B.val) (by unfold BookV.val BookV.cells; rfl) (refCheck_calls B _ (HB.out.below Hb))).mono ?_
      rintro e w1 ⟨rfl, hb⟩
      rw [Hg.out, cond_true]
      have H1 := below_then Hb Hb.size hb
      obtain ⟨c2, f2, l2⟩ := K2.out.below hb
      unfold BookV.cells at c2
      clear hb
      go_wp2_with fail
      refine (eq0_2 (v' := B.val) (by unfold BookV.val BookV.cells; rfl) (refIsPath_calls B g.out A c path _ (HP.out.below H1))).mono ?_
      rintro e w2 ⟨rfl, hb⟩
      rw [Hi.out]
      have H2 := below_then H1 H1.size hb
      clear hb
      go_wp2
      go_ret2
      exact ⟨by rw [Hr.out, Hg.out, Hi.out]; rfl, H2⟩
    | true =>
      have Hi := Lib.hid hi
      have ip := Lib.hid ((isPathS_iff g.out path).1 hi)
      clear hi
      unfold BookV.val BookV.cells
      go_enter Tryd.func17, Tryd.ntmps17
      go_wp2_with fail
      refine (eq0_1 (v' := B.val) (by unfold BookV.val BookV.cells; rfl) (refCheck_calls B _ (HB.out.below Hb))).mono ?_
      rintro e w1 ⟨rfl, hb⟩
      rw [Hg.out, cond_true]
      have H1 := below_then Hb Hb.size hb
      have K3 := Lib.hid (K2.out.below hb)
      obtain ⟨c2, f2, l2⟩ := K2.out.below hb
      unfold BookV.cells at c2
      clear hb
      go_wp2_with fail
      refine (eq0_2 (v' := B.val) (by unfold BookV.val BookV.cells; rfl) (refIsPath_calls B g.out A c path _ (HP.out.below H1))).mono ?_
      rintro e w2 ⟨rfl, hb⟩
      rw [Hi.out]
      have H2 := below_then H1 H1.size hb
      obtain ⟨c3, f3, l3⟩ := K3.out.below hb
      unfold BookV.cells at c3
      clear hb c2 f2 l2
      go_wp2_with fail
      refine (eq0_2 (v' := B.val) (by unfold BookV.val BookV.cells; rfl) (refLasts_calls B g.out A c path ip.out _ (HP.out.below H2) (HB.out.1.below H2))).mono ?_
      rintro e w3 ⟨rfl, hb⟩
      have H3 := below_then H2 H2.size hb
      clear hb c3 f3 l3
      go_wp2
      go_ret2
      exact ⟨by rw [Hr.out, Hg.out, Hi.out]; rfl, H3⟩
end
end Go.Proofs.YtljikigmfkfkiaaDoor
namespace Go.Proofs.YtljikigmfkfkiaaDoor
section
open Go.RowKit Go.Shelf
attribute [local go_sem] Oper.semAt_some
set_option linter.unusedSimpArgs false
set_option linter.unusedVariables false

set_option maxRecDepth 100000 in
set_option maxHeartbeats 4000000 in
theorem refLateX_calls (B : BookV) (A : Option Addr) (c : Nat) (path : List Int) (player beats : Int) (w : World) (hB : B.Reads w) (hp : IntsAt w A path) :
    Calls Tryd.prog 21 #[B.val, .slice A path.length c, .int .i64 player, .int .i64 beats] w fun e w' => e = .returned (lateR B path player beats) ∧ Below w.heap.size w w' := by
  have HB := Lib.hid hB
  have HP := Lib.hid hp
  have Hb : Below w.heap.size w ((w.alloc (.cells B.cells 27)).alloc (.cells #[.int .i64 0, .int .i64 0] 24)) := ((Below.refl _ _).alloc (Nat.le_refl _) _).alloc (by simp) _
  have k4 := (BoxAt.new w B.cells 27).alloc (.cells #[.int .i64 0, .int .i64 0] 24)
  have k8 := BoxAt.new (w.alloc (.cells B.cells 27)) #[.int .i64 0, .int .i64 0] 24
  rw [World.size_alloc] at k8
  have Hr : Hid (lateR B path player beats = bif goodB B then (bif lateAsk B path player beats then .tuple #[spanV (lateTo B path (gp B.players player.toNat) false beats.toNat) (lateTo B path (gp B.players player.toNat) true beats.toNat), .int .i64 0] else .tuple #[spanV 0 0, .int .i64 81]) else .tuple #[spanV 0 0, .int .i64 80]) := rfl
  have K4 := Lib.hid k4
  have K8 := Lib.hid k8
  clear hB hp k4 k8
  unfold BookV.val BookV.cells
  go_enter Tryd.func21, Tryd.ntmps21
  go_wp2_with fail
  refine (eq0_1 (v' := B.val) (by unfold BookV.val BookV.cells; rfl) (refCheck_calls B _ (HB.out.below Hb))).mono ?_
  rintro e w1 ⟨rfl, hb⟩
  have H1 := Lib.hid (below_then Hb (by simp; omega) hb)
  have K41 := Lib.hid (K4.out.below hb)
  have K81 := Lib.hid (K8.out.below hb)
  clear hb Hb
  cases hg : goodB B with
  | false =>
    rw [cond_false]
    have Hg := Lib.hid hg
    have hs := box_store2 K81.out rfl (.int .i64 0) (.int .i64 0)
    have Hs := Lib.hid hs
    obtain ⟨c8, f8, l8⟩ := K81.out
    clear hg hs
    go_wp2
    have cs := Hs.out.1.cell
    exact bodyPost_ret (v := .tuple #[spanV 0 0, .int .i64 80]) (by simp [results, Tryd.results21, go_sem, cs, spanV]) rfl ⟨by rw [Hr.out, Hg.out]; rfl, H1.out.trans (Hs.out.2 _ (by omega))⟩
  | true =>
    rw [cond_true]
    have Hg := Lib.hid hg
    have g := Lib.hid ((goodB_iff B).1 hg)
    have hps := parts_size g.out
    have hm := g.out.many
    have hwm : IntKind.i64.wrap (B.parts * B.size) = B.parts * B.size := wrap_in (by omega) (by omega)
    obtain ⟨c4, f4, l4⟩ := K41.out
    unfold BookV.cells at c4
    clear hg
    go_upto_region 4 with (fail)
    go_cut [39] (fun s w2 => s = .bool (!lateAsk B path player beats) ∧ Below w1.heap.size w1 w2)
    case first =>
      have hla : Hid (lateAsk B path player beats = (isPathS B.parts B.start path && (inB player 0 (B.players.length - 1) && inB beats 0 (B.parts * B.size)))) := rfl
      generalize lateAsk B path player beats = la at *
      rcases chain3 (isPathS B.parts B.start path) (inB player 0 (B.players.length - 1)) (inB beats 0 (B.parts * B.size)) with hi | ⟨hi, hj⟩ | ⟨hi, hj, hk⟩ | ⟨hi, hj, hk⟩
      all_goals
        go_wp2_with fail
        refine (eq0_2 (v' := B.val) (by unfold BookV.val BookV.cells; rfl) (refIsPath_calls B g.out A c path _ (HP.out.below H1.out))).mono ?_
        rintro e w2 ⟨rfl, hb⟩
        rw [hi]
        have hbw := Lib.hid hb
        obtain ⟨c4', f4', l4'⟩ := K41.out.below hb
        unfold BookV.cells at c4'
        clear hb c4 f4 l4
        have hlv : Hid ((isPathS B.parts B.start path && (inB player 0 (B.players.length - 1) && inB beats 0 (B.parts * B.size))) = (isPathS B.parts B.start path && (inB player 0 (B.players.length - 1) && inB beats 0 (B.parts * B.size)))) := rfl
        go_wp2_with (go_at_call 53; refine (Sits_calls _ _ _ _).mono ?_; rintro e w' ⟨rfl, rfl⟩)
        go_meet
        exact ⟨by rw [hla.out]; simp [*], hbw.out⟩
    case rest =>
      obtain ⟨rfl, hb⟩ := hcut
      have H2 := Lib.hid (below_then H1.out H1.out.size hb)
      have K42 := Lib.hid (K41.out.below hb)
      have K82 := Lib.hid (K81.out.below hb)
      clear hb c4 f4 l4
      generalize wc = w2 at *
      cases hi : lateAsk B path player beats with
      | false =>
        have Hi := Lib.hid hi
        have hs := box_store2 K82.out rfl (.int .i64 0) (.int .i64 0)
        have Hs := Lib.hid hs
        obtain ⟨c8, f8, l8⟩ := K82.out
        clear hs hi
        go_wp2
        have cs := Hs.out.1.cell
        exact bodyPost_ret (v := .tuple #[spanV 0 0, .int .i64 81]) (by simp [results, Tryd.results21, go_sem, cs, spanV]) rfl ⟨by rw [Hr.out, Hg.out, Hi.out]; rfl, H2.out.trans (Hs.out.2 _ (by omega))⟩
      | true =>
        have Hi := Lib.hid hi
        have hia := hi
        unfold lateAsk at hia
        rw [Bool.and_eq_true, Bool.and_eq_true, inB_iff, inB_iff] at hia
        obtain ⟨hpth, ⟨hp0, hp1⟩, hb0, hb1⟩ := hia
        have ip := Lib.hid ((isPathS_iff g.out path).1 hpth)
        obtain ⟨j, rfl⟩ := Int.eq_ofNat_of_zero_le hp0
        obtain ⟨m, rfl⟩ := Int.eq_ofNat_of_zero_le hb0
        have hj : j < B.players.length := by omega
        have hmn : m ≤ (B.parts * B.size).toNat := by omega
        have hji : (j : Int) < B.players.length := by omega
        have hpa := HB.out.2
        obtain ⟨pb, po, ePA, hpc'⟩ := hpa.2.1.resolve_left (by intro e; rw [e] at hj; simp at hj)
        have hpc := hpc' j hj
        have p0 := cell_below H2.out hpc.1
        have p1 := cell_below H2.out hpc.2.1
        have p2 := cell_below H2.out hpc.2.2
        have hpl := hpa.1
        have pbl := World.block_lt_of_cell? _ _ p0
        have pbw := World.block_lt_of_cell? _ _ hpc.1
        simp only at pbl pbw
        have hpn : pb ≠ w.heap.size + 1 := by omega
        clear pbw
        obtain ⟨c4, f4, l4⟩ := K42.out
        obtain ⟨c8, f8, l8⟩ := K82.out
        unfold BookV.cells at c4
        have Hj := Lib.hid hj
        have Hmn := Lib.hid hmn
        rw [ePA] at c4
        have EPA := Lib.hid ePA
        clear hpth hp0 hp1 hb0 hb1 hpa hpc hpc' hi ePA hj hmn
        go_upto_region 6 with (fail)
        refine region_plain (S := fun w' => KB (w.heap.size + 1) 2 w2 w') 11 (by kernel_rfl) ?_ (fun hHeld => ?_)
        · exact ⟨(Keep.refl _ _).drew, _, rfl, (BoxAt.mk c8 f8 l8).below (Below.refl _ _).drew⟩
        first | (refine anyT_take 0 (some 41) (v := ?_) rfl rfl (by kernel_rfl) (by kernel_rfl) (by kernel_rfl) (by kernel_rfl) (fun _ _ _ h => h) (Or.inl ⟨by rfl, ?_⟩) hHeld ?_; rotate_left; focus (intro wq hSw; obtain ⟨hcq, hfq⟩ := kcell hSw.keep; go_simp; (try with_reducible rfl); done))
        (try simp only [Act.put, List.setIfInBounds_toArray, List.set_cons_zero, List.set_cons_succ])
        first | (refine anyT_take 1 (some 42) (v := ?_) rfl rfl (by kernel_rfl) (by kernel_rfl) (by kernel_rfl) (by kernel_rfl) (fun _ _ _ h => h) (Or.inl ⟨by rfl, ?_⟩) hHeld ?_; rotate_left; focus (intro wq hSw; obtain ⟨hcq, hfq⟩ := kcell hSw.keep; go_simp; (try with_reducible rfl); done))
        (try simp only [Act.put, List.setIfInBounds_toArray, List.set_cons_zero, List.set_cons_succ])
        first | (refine anyT_take 2 (some 43) (v := ?_) rfl rfl (by kernel_rfl) (by kernel_rfl) (by kernel_rfl) (by kernel_rfl) (fun _ _ _ h => h) (Or.inl ⟨by rfl, ?_⟩) hHeld ?_; rotate_left; focus (intro wq hSw; obtain ⟨hcq, hfq⟩ := kcell hSw.keep; go_simp; (try with_reducible rfl); done))
        (try simp only [Act.put, List.setIfInBounds_toArray, List.set_cons_zero, List.set_cons_succ])
        first | (refine anyT_take 3 (some 44) (v := ?_) rfl rfl (by kernel_rfl) (by kernel_rfl) (by kernel_rfl) (by kernel_rfl) (fun _ _ _ h => h) (Or.inl ⟨by rfl, ?_⟩) hHeld ?_; rotate_left; focus (intro wq hSw; obtain ⟨hcq, hfq⟩ := kcell hSw.keep; go_simp; (try with_reducible rfl); done))
        (try simp only [Act.put, List.setIfInBounds_toArray, List.set_cons_zero, List.set_cons_succ])
        first | (refine anyT_take 4 (some 45) (v := ?_) rfl rfl (by kernel_rfl) (by kernel_rfl) (by kernel_rfl) (by kernel_rfl) (fun _ _ _ h => h) (Or.inl ⟨by rfl, ?_⟩) hHeld ?_; rotate_left; focus (intro wq hSw; obtain ⟨hcq, hfq⟩ := kcell hSw.keep; go_simp; (try with_reducible rfl); done))
        (try simp only [Act.put, List.setIfInBounds_toArray, List.set_cons_zero, List.set_cons_succ])
        first | (refine anyT_take 5 (some 46) (v := ?_) rfl rfl (by kernel_rfl) (by kernel_rfl) (by kernel_rfl) (by kernel_rfl) (fun _ _ _ h => h) (Or.inl ⟨by rfl, ?_⟩) hHeld ?_; rotate_left; focus (intro wq hSw; obtain ⟨hcq, hfq⟩ := kcell hSw.keep; go_simp; (try with_reducible rfl); done))
        (try simp only [Act.put, List.setIfInBounds_toArray, List.set_cons_zero, List.set_cons_succ])
        first | (refine anyT_take 6 (some 47) (v := ?_) rfl rfl (by kernel_rfl) (by kernel_rfl) (by kernel_rfl) (by kernel_rfl) (fun _ _ _ h => h) (Or.inl ⟨by rfl, ?_⟩) hHeld ?_; rotate_left; focus (intro wq hSw; obtain ⟨hcq, hfq⟩ := kcell hSw.keep; go_simp; (try with_reducible rfl); done))
        (try simp only [Act.put, List.setIfInBounds_toArray, List.set_cons_zero, List.set_cons_succ])
        first | (refine anyT_take 7 (some 48) (v := ?_) rfl rfl (by kernel_rfl) (by kernel_rfl) (by kernel_rfl) (by kernel_rfl) (fun _ _ _ h => h) (Or.inl ⟨by rfl, ?_⟩) hHeld ?_; rotate_left; focus (intro wq hSw; obtain ⟨hcq, hfq⟩ := kcell hSw.keep; go_simp; (try with_reducible rfl); done))
        (try simp only [Act.put, List.setIfInBounds_toArray, List.set_cons_zero, List.set_cons_succ])
        refine anyT_one 8 (by kernel_rfl) rfl (fun K hK => ?_)
        have hbq : Below w.heap.size w _ := H2.out.trans (hHeld.keep.below (fun k _ e => by omega) H2.out.size)
        go_simp
        refine (eq0_4 (v' := B.val) (by unfold BookV.val BookV.cells; rw [EPA.out]) (refLate_calls B g.out A c path ip.out j m Hj.out Hmn.out _ (HB.out.2.below hbq) (HP.out.below hbq))).mono ?_; clear hbq; rintro e w5 ⟨rfl, hb5⟩
        refine hK.out _ _ ?_ (fun hHeld => ?_)
        · exact hHeld.below hb5
        clear hK K
        (try simp only [Act.put, List.setIfInBounds_toArray, List.set_cons_zero, List.set_cons_succ])
        refine anyT_one 9 (by kernel_rfl) rfl (fun K hK => ?_)
        obtain ⟨cs8, hs8, hx8⟩ := hHeld.box; obtain ⟨hst, hbel⟩ := box_store2 hx8 hs8 (.int .i64 (lateTo B path (gp B.players j) false m)) (.int .i64 (lateTo B path (gp B.players j) true m)); obtain ⟨x0, x1, rfl⟩ := arr2 hs8; obtain ⟨c8', f8', l8'⟩ := hx8; unfold spanV
        go_simp
        have hkb : KB (w.heap.size + 1) 2 w2 _ := ⟨(hHeld.keep.setCell (p := ⟨_, 0, none⟩) (.inl rfl) (.int .i64 (lateTo B path (gp B.players j) false m))).setCell (p := ⟨_, 1, none⟩) (.inl rfl) (.int .i64 (lateTo B path (gp B.players j) true m)), _, rfl, hst⟩
        refine hK.out _ _ ?_ (fun hHeld => ?_)
        · exact hkb
        clear hK K
        (try simp only [Act.put, List.setIfInBounds_toArray, List.set_cons_zero, List.set_cons_succ])
        first | (refine anyT_take 10 (some 9) (v := ?_) rfl rfl (by kernel_rfl) (by kernel_rfl) (by kernel_rfl) (by kernel_rfl) (fun _ _ _ h => h) (Or.inl ⟨by rfl, ?_⟩) hHeld ?_; rotate_left; focus (intro wq hSw; obtain ⟨hcq, hfq⟩ := kcell hSw.keep; go_simp; (try with_reducible rfl); done))
        (try simp only [Act.put, List.setIfInBounds_toArray, List.set_cons_zero, List.set_cons_succ])
        refine anyT_done (by kernel_rfl) ?_ _
        have hfin : Below w.heap.size w _ := H2.out.trans (hkb.keep.below (fun k _ e => by omega) H2.out.size)
        obtain ⟨c9, f9, l9⟩ := hst
        clear hbel hHeld
        go_wp2
        exact bodyPost_ret (v := .tuple #[spanV (lateTo B path (gp B.players j) false m) (lateTo B path (gp B.players j) true m), .int .i64 0]) (by simp [results, Tryd.results21, go_sem, c9, spanV]) rfl ⟨by rw [Hr.out, Hg.out, Hi.out]; rfl, hfin⟩
end
end Go.Proofs.YtljikigmfkfkiaaDoor
namespace Go.Proofs.YtljikigmfkfkiaaDoor
section
open Go.RowKit Go.Shelf
attribute [local go_sem] Oper.semAt_some
set_option linter.unusedSimpArgs false
set_option linter.unusedVariables false

@[local go_sem] theorem field24_1 (a b : Int) (w : World) : Sem.run Tryd.prog (Instr.field 24 (.agg #[.int .i64 a, .int .i64 b]) 1) w = .ok (.int .i64 b) w := by kernel_rfl
theorem lastL_more (B : BookV) (path : List Int) : ∀ k, lastL B path (B.players.length + k) = lastL B path B.players.length
  | 0 => rfl
  | k + 1 => by
    rw [← Nat.add_assoc, lastL_succ, lastL_more B path k]
    have : lastAt B path B.players.length (B.players.length + k) = 0 := by unfold lastAt; rw [if_neg (by omega)]
    rw [this]; simp
theorem lastL_five {B : BookV} (g : B.Good) (path : List Int) : lastL B path 5 = lastL B path B.players.length := by
  have := g.many
  rw [show 5 = B.players.length + (5 - B.players.length) by omega]; exact lastL_more B path _
/-- what the reference's Last returns: as the program's, but for what lies behind the list -/
def refLastR (B : BookV) (path : List Int) (e : Ending) (w' : World) : Prop :=
  (goodB B = false ∧ e = .returned (.tuple #[.slice none 0 0, .int .i64 80])) ∨ (goodB B = true ∧ isPathS B.parts B.start path = false ∧ e = .returned (.tuple #[.slice none 0 0, .int .i64 81])) ∨
  (goodB B = true ∧ isPathS B.parts B.start path = true ∧ ∃ A c, e = .returned (.tuple #[.slice A (lastL B path 5).length c, .int .i64 0]) ∧ IntsAt w' A (lastL B path 5))
set_option maxRecDepth 100000 in
set_option maxHeartbeats 4000000 in
theorem refLast_calls (B : BookV) (A : Option Addr) (c : Nat) (path : List Int) (w : World) (hB : B.Reads w) (hp : IntsAt w A path) :
    Calls Tryd.prog 23 #[B.val, .slice A path.length c] w fun e w' => refLastR B path e w' ∧ Below w.heap.size w w' := by
  have HB := Lib.hid hB
  have HP := Lib.hid hp
  have Hb : Below w.heap.size w (w.alloc (.cells B.cells 27)) := (Below.refl _ _).alloc (Nat.le_refl _) _
  have K2 := Lib.hid (BoxAt.new w B.cells 27)
  clear hB hp
  unfold BookV.val BookV.cells
  go_enter Tryd.func23, Tryd.ntmps23
  go_wp2_with fail
  refine (eq0_1 (v' := B.val) (by unfold BookV.val BookV.cells; rfl) (refCheck_calls B _ (HB.out.below Hb))).mono ?_
  rintro e w1 ⟨rfl, hb⟩
  have H1 := Lib.hid (below_then Hb Hb.size hb)
  have K21 := Lib.hid (K2.out.below hb)
  clear hb Hb
  cases hg : goodB B with
  | false =>
    rw [cond_false]
    have Hg := Lib.hid hg
    clear hg
    go_wp2
    go_ret2
    exact ⟨.inl ⟨Hg.out, rfl⟩, H1.out⟩
  | true =>
    rw [cond_true]
    have Hg := Lib.hid hg
    have g := Lib.hid ((goodB_iff B).1 hg)
    obtain ⟨c2, f2, l2⟩ := K21.out
    unfold BookV.cells at c2
    clear hg
    go_wp2_with fail
    refine (eq0_2 (v' := B.val) (by unfold BookV.val BookV.cells; rfl) (refIsPath_calls B g.out A c path _ (HP.out.below H1.out))).mono ?_
    rintro e w2 ⟨rfl, hb⟩
    have H2 := Lib.hid (below_then H1.out H1.out.size hb)
    have K22 := Lib.hid (K21.out.below hb)
    clear hb c2 f2 l2
    cases hi : isPathS B.parts B.start path with
    | false =>
      have Hi := Lib.hid hi
      clear hi
      go_wp2
      go_ret2
      exact ⟨.inr (.inl ⟨Hg.out, Hi.out, rfl⟩), H2.out⟩
    | true =>
      have Hi := Lib.hid hi
      have ip := Lib.hid ((isPathS_iff g.out path).1 hi)
      have hps := parts_size g.out
      have hm := g.out.many
      have hwm : IntKind.i64.wrap (B.parts * B.size) = B.parts * B.size := wrap_in (by omega) (by omega)
      obtain ⟨pb, po, ePA, hpc⟩ := HB.out.2.2.1.resolve_left (by intro e; rw [e] at hm; simp at hm)
      have Hpc := Lib.hid hpc
      have EPA := Lib.hid ePA
      have hpl := HB.out.2.1
      have Hms : Hid (B.parts * B.size = (((B.parts * B.size).toNat : Nat) : Int)) := by unfold Hid; omega
      clear hi hpc ePA
      obtain ⟨c2, f2, l2⟩ := K22.out
      unfold BookV.cells at c2
      go_upto_block 0 with (fail)
      clear c2 f2 l2
      go_wp2
      go_loopg [8, 7] B.players.length (fun gk i v wr => ∃ k : Nat, k ≤ B.players.length ∧ gk = B.players.length - k ∧ i = .int .i64 k ∧ OwnInts wr w2.heap.size v (lastL B path k) ∧ Below w2.heap.size w2 wr)
      case atStart => exact ⟨0, Nat.zero_le _, rfl, rfl, OwnInts.nil _ _, Below.refl _ _⟩
      case round =>
        obtain ⟨k, hk, hgk, rfl, hown, hbe⟩ := hrel
        have Hgk := Lib.hid hgk
        have Hown := Lib.hid hown
        have Hbe := Lib.hid hbe
        have HbW := Lib.hid (below_then H2.out H2.out.size hbe)
        clear hgk hown
        obtain ⟨c2, f2, l2⟩ := K22.out.below hbe
        unfold BookV.cells at c2
        rw [EPA.out] at c2
        clear hbe
        by_cases hlt : k < B.players.length
        · have hlt' : (k : Int) < B.players.length := by omega
          have hs := lastL_succ B path k
          have hla : lastAt B path B.players.length k = lateTo B path (gp B.players k) true (B.parts * B.size).toNat := by unfold lastAt; rw [if_pos hlt]
          rw [hla] at hs
          have hpk := Hpc.out k hlt
          have p0 := cell_below HbW.out hpk.1
          have p1 := cell_below HbW.out hpk.2.1
          have p2 := cell_below HbW.out hpk.2.2
          have pbl := World.block_lt_of_cell? _ _ p0
          simp only at pbl
          have Hlt := Lib.hid hlt
          clear hla hpk
          by_cases hp : 0 < lateTo B path (gp B.players k) true (B.parts * B.size).toNat
          · simp only [hp, decide_true, cond_true] at hs
            have Hs := Lib.hid hs
            clear hs
            go_upto_region 10 with (fail)
            refine region_plain (S := fun w' => Below wr.heap.size wr w') 15 (by kernel_rfl) ?_ (fun hHeld => ?_)
            · exact (Below.refl _ _).drew
            first | (refine anyT_take 0 (some 25) (v := ?_) rfl rfl (by kernel_rfl) (by kernel_rfl) (by kernel_rfl) (by kernel_rfl) (fun _ _ _ h => h) (Or.inl ⟨by rfl, ?_⟩) hHeld ?_; rotate_left; focus (intro wq hSw; obtain ⟨hcq, hfq⟩ := bcell hSw; go_simp; (try with_reducible rfl); done))
            (try simp only [Act.put, List.setIfInBounds_toArray, List.set_cons_zero, List.set_cons_succ])
            first | (refine anyT_take 1 (some 26) (v := ?_) rfl rfl (by kernel_rfl) (by kernel_rfl) (by kernel_rfl) (by kernel_rfl) (fun _ _ _ h => h) (Or.inl ⟨by rfl, ?_⟩) hHeld ?_; rotate_left; focus (intro wq hSw; obtain ⟨hcq, hfq⟩ := bcell hSw; go_simp; (try with_reducible rfl); done))
            (try simp only [Act.put, List.setIfInBounds_toArray, List.set_cons_zero, List.set_cons_succ])
            first | (refine anyT_take 2 (some 27) (v := ?_) rfl rfl (by kernel_rfl) (by kernel_rfl) (by kernel_rfl) (by kernel_rfl) (fun _ _ _ h => h) (Or.inl ⟨by rfl, ?_⟩) hHeld ?_; rotate_left; focus (intro wq hSw; obtain ⟨hcq, hfq⟩ := bcell hSw; go_simp; (try with_reducible rfl); done))
            (try simp only [Act.put, List.setIfInBounds_toArray, List.set_cons_zero, List.set_cons_succ])
            first | (refine anyT_take 3 (some 28) (v := ?_) rfl rfl (by kernel_rfl) (by kernel_rfl) (by kernel_rfl) (by kernel_rfl) (fun _ _ _ h => h) (Or.inl ⟨by rfl, ?_⟩) hHeld ?_; rotate_left; focus (intro wq hSw; obtain ⟨hcq, hfq⟩ := bcell hSw; go_simp; (try with_reducible rfl); done))
            (try simp only [Act.put, List.setIfInBounds_toArray, List.set_cons_zero, List.set_cons_succ])
            first | (refine anyT_take 4 (some 29) (v := ?_) rfl rfl (by kernel_rfl) (by kernel_rfl) (by kernel_rfl) (by kernel_rfl) (fun _ _ _ h => h) (Or.inl ⟨by rfl, ?_⟩) hHeld ?_; rotate_left; focus (intro wq hSw; obtain ⟨hcq, hfq⟩ := bcell hSw; go_simp; (try with_reducible rfl); done))
            (try simp only [Act.put, List.setIfInBounds_toArray, List.set_cons_zero, List.set_cons_succ])
            first | (refine anyT_take 5 (some 30) (v := ?_) rfl rfl (by kernel_rfl) (by kernel_rfl) (by kernel_rfl) (by kernel_rfl) (fun _ _ _ h => h) (Or.inl ⟨by rfl, ?_⟩) hHeld ?_; rotate_left; focus (intro wq hSw; obtain ⟨hcq, hfq⟩ := bcell hSw; go_simp; (try with_reducible rfl); done))
            (try simp only [Act.put, List.setIfInBounds_toArray, List.set_cons_zero, List.set_cons_succ])
            first | (refine anyT_take 6 (some 31) (v := ?_) rfl rfl (by kernel_rfl) (by kernel_rfl) (by kernel_rfl) (by kernel_rfl) (fun _ _ _ h => h) (Or.inl ⟨by rfl, ?_⟩) hHeld ?_; rotate_left; focus (intro wq hSw; obtain ⟨hcq, hfq⟩ := bcell hSw; go_simp; (try with_reducible rfl); done))
            (try simp only [Act.put, List.setIfInBounds_toArray, List.set_cons_zero, List.set_cons_succ])
            first | (refine anyT_take 7 (some 32) (v := ?_) rfl rfl (by kernel_rfl) (by kernel_rfl) (by kernel_rfl) (by kernel_rfl) (fun _ _ _ h => h) (Or.inl ⟨by rfl, ?_⟩) hHeld ?_; rotate_left; focus (intro wq hSw; obtain ⟨hcq, hfq⟩ := bcell hSw; go_simp; (try with_reducible rfl); done))
            (try simp only [Act.put, List.setIfInBounds_toArray, List.set_cons_zero, List.set_cons_succ])
            first | (refine anyT_take 8 (some 33) (v := ?_) rfl rfl (by kernel_rfl) (by kernel_rfl) (by kernel_rfl) (by kernel_rfl) (fun _ _ _ h => h) (Or.inl ⟨by rfl, ?_⟩) hHeld ?_; rotate_left; focus (intro wq hSw; obtain ⟨hcq, hfq⟩ := bcell hSw; go_simp; (try with_reducible rfl); done))
            (try simp only [Act.put, List.setIfInBounds_toArray, List.set_cons_zero, List.set_cons_succ])
            first | (refine anyT_take 9 (some 34) (v := ?_) rfl rfl (by kernel_rfl) (by kernel_rfl) (by kernel_rfl) (by kernel_rfl) (fun _ _ _ h => h) (Or.inl ⟨by rfl, ?_⟩) hHeld ?_; rotate_left; focus (intro wq hSw; obtain ⟨hcq, hfq⟩ := bcell hSw; go_simp; (try with_reducible rfl); done))
            (try simp only [Act.put, List.setIfInBounds_toArray, List.set_cons_zero, List.set_cons_succ])
            first | (refine anyT_take 10 (some 35) (v := ?_) rfl rfl (by kernel_rfl) (by kernel_rfl) (by kernel_rfl) (by kernel_rfl) (fun _ _ _ h => h) (Or.inl ⟨by rfl, ?_⟩) hHeld ?_; rotate_left; focus (intro wq hSw; obtain ⟨hcq, hfq⟩ := bcell hSw; go_simp; (try with_reducible rfl); done))
            (try simp only [Act.put, List.setIfInBounds_toArray, List.set_cons_zero, List.set_cons_succ])
            first | (refine anyT_take 11 (some 36) (v := ?_) rfl rfl (by kernel_rfl) (by kernel_rfl) (by kernel_rfl) (by kernel_rfl) (fun _ _ _ h => h) (Or.inl ⟨by rfl, ?_⟩) hHeld ?_; rotate_left; focus (intro wq hSw; obtain ⟨hcq, hfq⟩ := bcell hSw; go_simp; (try with_reducible rfl); done))
            (try simp only [Act.put, List.setIfInBounds_toArray, List.set_cons_zero, List.set_cons_succ])
            refine anyT_one 12 (by kernel_rfl) rfl (fun K hK => ?_)
            have hbq : Below w.heap.size w _ := HbW.out.trans (hHeld.mono HbW.out.size)
            go_simp
            refine (eq0_4 (v' := B.val) (by unfold BookV.val BookV.cells; rw [EPA.out]) (by rw [Hms.out]; exact refLate_calls B g.out A c path ip.out k _ Hlt.out (Nat.le_refl _) _ (HB.out.2.below hbq) (HP.out.below hbq))).mono ?_; clear hbq; rintro e w5 ⟨rfl, hb5⟩; unfold spanV
            refine hK.out _ _ ?_ (fun hHeld => ?_)
            · exact below_then hHeld hHeld.size hb5
            clear hK K
            (try simp only [Act.put, List.setIfInBounds_toArray, List.set_cons_zero, List.set_cons_succ])
            first | (refine anyT_take 13 (some 38) (v := ?_) rfl rfl (by kernel_rfl) (by kernel_rfl) (by kernel_rfl) (by kernel_rfl) (fun _ _ _ h => h) (Or.inl ⟨by rfl, ?_⟩) hHeld ?_; rotate_left; focus (intro wq hSw; obtain ⟨hcq, hfq⟩ := bcell hSw; go_simp; (try with_reducible rfl); done))
            (try simp only [Act.put, List.setIfInBounds_toArray, List.set_cons_zero, List.set_cons_succ])
            first | (refine anyT_take 14 (some 39) (v := ?_) rfl rfl (by kernel_rfl) (by kernel_rfl) (by kernel_rfl) (by kernel_rfl) (fun _ _ _ h => h) (Or.inl ⟨by rfl, ?_⟩) hHeld ?_; rotate_left; focus (intro wq hSw; obtain ⟨hcq, hfq⟩ := bcell hSw; go_simp; (try with_reducible rfl); done))
            (try simp only [Act.put, List.setIfInBounds_toArray, List.set_cons_zero, List.set_cons_succ])
            refine anyT_done (by kernel_rfl) ?_ _
            have Hh := Lib.hid hHeld
            have Ho5 := Lib.hid (Hown.out.keep hHeld)
            clear hHeld c2 f2 l2 p0 p1 p2 pbl
            have hbs : Below w2.heap.size w2 w5 := below_then Hbe.out Hbe.out.size Hh.out
            have Hbs := Lib.hid hbs
            clear hbs
            go_wp2_with (at_builtin; refine wpList_app1 _ rfl _ _ rfl w2.heap.size _ _ rfl (Ho5.out.alloc _) _ _ _ rfl (cell_new1 _ _ _) (by have := lastL_le B path k; omega) (by have := Hbs.out.size; simp; omega) ?_)
            intro v' w6 ho hb6 hsz _
            have Hho := Lib.hid ho
            have Hb6 := Lib.hid hb6
            clear ho hb6 hsz
            go_wp2
            go_roundg (B.players.length - (k + 1))
            case measure => have := Hgk.out; omega
            case rel => exact ⟨k + 1, by omega, rfl, by go_num, by rw [Hs.out]; exact Hho.out, (Hbs.out.alloc Hbs.out.size _).trans Hb6.out⟩
          · simp only [hp, decide_false, cond_false, List.append_nil] at hs
            have Hs := Lib.hid hs
            clear hs
            go_upto_region 10 with (fail)
            refine region_plain (S := fun w' => Below wr.heap.size wr w') 15 (by kernel_rfl) ?_ (fun hHeld => ?_)
            · exact (Below.refl _ _).drew
            first | (refine anyT_take 0 (some 25) (v := ?_) rfl rfl (by kernel_rfl) (by kernel_rfl) (by kernel_rfl) (by kernel_rfl) (fun _ _ _ h => h) (Or.inl ⟨by rfl, ?_⟩) hHeld ?_; rotate_left; focus (intro wq hSw; obtain ⟨hcq, hfq⟩ := bcell hSw; go_simp; (try with_reducible rfl); done))
            (try simp only [Act.put, List.setIfInBounds_toArray, List.set_cons_zero, List.set_cons_succ])
            first | (refine anyT_take 1 (some 26) (v := ?_) rfl rfl (by kernel_rfl) (by kernel_rfl) (by kernel_rfl) (by kernel_rfl) (fun _ _ _ h => h) (Or.inl ⟨by rfl, ?_⟩) hHeld ?_; rotate_left; focus (intro wq hSw; obtain ⟨hcq, hfq⟩ := bcell hSw; go_simp; (try with_reducible rfl); done))
            (try simp only [Act.put, List.setIfInBounds_toArray, List.set_cons_zero, List.set_cons_succ])
            first | (refine anyT_take 2 (some 27) (v := ?_) rfl rfl (by kernel_rfl) (by kernel_rfl) (by kernel_rfl) (by kernel_rfl) (fun _ _ _ h => h) (Or.inl ⟨by rfl, ?_⟩) hHeld ?_; rotate_left; focus (intro wq hSw; obtain ⟨hcq, hfq⟩ := bcell hSw; go_simp; (try with_reducible rfl); done))
            (try simp only [Act.put, List.setIfInBounds_toArray, List.set_cons_zero, List.set_cons_succ])
            first | (refine anyT_take 3 (some 28) (v := ?_) rfl rfl (by kernel_rfl) (by kernel_rfl) (by kernel_rfl) (by kernel_rfl) (fun _ _ _ h => h) (Or.inl ⟨by rfl, ?_⟩) hHeld ?_; rotate_left; focus (intro wq hSw; obtain ⟨hcq, hfq⟩ := bcell hSw; go_simp; (try with_reducible rfl); done))
            (try simp only [Act.put, List.setIfInBounds_toArray, List.set_cons_zero, List.set_cons_succ])
            first | (refine anyT_take 4 (some 29) (v := ?_) rfl rfl (by kernel_rfl) (by kernel_rfl) (by kernel_rfl) (by kernel_rfl) (fun _ _ _ h => h) (Or.inl ⟨by rfl, ?_⟩) hHeld ?_; rotate_left; focus (intro wq hSw; obtain ⟨hcq, hfq⟩ := bcell hSw; go_simp; (try with_reducible rfl); done))
            (try simp only [Act.put, List.setIfInBounds_toArray, List.set_cons_zero, List.set_cons_succ])
            first | (refine anyT_take 5 (some 30) (v := ?_) rfl rfl (by kernel_rfl) (by kernel_rfl) (by kernel_rfl) (by kernel_rfl) (fun _ _ _ h => h) (Or.inl ⟨by rfl, ?_⟩) hHeld ?_; rotate_left; focus (intro wq hSw; obtain ⟨hcq, hfq⟩ := bcell hSw; go_simp; (try with_reducible rfl); done))
            (try simp only [Act.put, List.setIfInBounds_toArray, List.set_cons_zero, List.set_cons_succ])
            first | (refine anyT_take 6 (some 31) (v := ?_) rfl rfl (by kernel_rfl) (by kernel_rfl) (by kernel_rfl) (by kernel_rfl) (fun _ _ _ h => h) (Or.inl ⟨by rfl, ?_⟩) hHeld ?_; rotate_left; focus (intro wq hSw; obtain ⟨hcq, hfq⟩ := bcell hSw; go_simp; (try with_reducible rfl); done))
            (try simp only [Act.put, List.setIfInBounds_toArray, List.set_cons_zero, List.set_cons_succ])
            first | (refine anyT_take 7 (some 32) (v := ?_) rfl rfl (by kernel_rfl) (by kernel_rfl) (by kernel_rfl) (by kernel_rfl) (fun _ _ _ h => h) (Or.inl ⟨by rfl, ?_⟩) hHeld ?_; rotate_left; focus (intro wq hSw; obtain ⟨hcq, hfq⟩ := bcell hSw; go_simp; (try with_reducible rfl); done))
            (try simp only [Act.put, List.setIfInBounds_toArray, List.set_cons_zero, List.set_cons_succ])
            first | (refine anyT_take 8 (some 33) (v := ?_) rfl rfl (by kernel_rfl) (by kernel_rfl) (by kernel_rfl) (by kernel_rfl) (fun _ _ _ h => h) (Or.inl ⟨by rfl, ?_⟩) hHeld ?_; rotate_left; focus (intro wq hSw; obtain ⟨hcq, hfq⟩ := bcell hSw; go_simp; (try with_reducible rfl); done))
            (try simp only [Act.put, List.setIfInBounds_toArray, List.set_cons_zero, List.set_cons_succ])
            first | (refine anyT_take 9 (some 34) (v := ?_) rfl rfl (by kernel_rfl) (by kernel_rfl) (by kernel_rfl) (by kernel_rfl) (fun _ _ _ h => h) (Or.inl ⟨by rfl, ?_⟩) hHeld ?_; rotate_left; focus (intro wq hSw; obtain ⟨hcq, hfq⟩ := bcell hSw; go_simp; (try with_reducible rfl); done))
            (try simp only [Act.put, List.setIfInBounds_toArray, List.set_cons_zero, List.set_cons_succ])
            first | (refine anyT_take 10 (some 35) (v := ?_) rfl rfl (by kernel_rfl) (by kernel_rfl) (by kernel_rfl) (by kernel_rfl) (fun _ _ _ h => h) (Or.inl ⟨by rfl, ?_⟩) hHeld ?_; rotate_left; focus (intro wq hSw; obtain ⟨hcq, hfq⟩ := bcell hSw; go_simp; (try with_reducible rfl); done))
            (try simp only [Act.put, List.setIfInBounds_toArray, List.set_cons_zero, List.set_cons_succ])
            first | (refine anyT_take 11 (some 36) (v := ?_) rfl rfl (by kernel_rfl) (by kernel_rfl) (by kernel_rfl) (by kernel_rfl) (fun _ _ _ h => h) (Or.inl ⟨by rfl, ?_⟩) hHeld ?_; rotate_left; focus (intro wq hSw; obtain ⟨hcq, hfq⟩ := bcell hSw; go_simp; (try with_reducible rfl); done))
            (try simp only [Act.put, List.setIfInBounds_toArray, List.set_cons_zero, List.set_cons_succ])
            refine anyT_one 12 (by kernel_rfl) rfl (fun K hK => ?_)
            have hbq : Below w.heap.size w _ := HbW.out.trans (hHeld.mono HbW.out.size)
            go_simp
            refine (eq0_4 (v' := B.val) (by unfold BookV.val BookV.cells; rw [EPA.out]) (by rw [Hms.out]; exact refLate_calls B g.out A c path ip.out k _ Hlt.out (Nat.le_refl _) _ (HB.out.2.below hbq) (HP.out.below hbq))).mono ?_; clear hbq; rintro e w5 ⟨rfl, hb5⟩; unfold spanV
            refine hK.out _ _ ?_ (fun hHeld => ?_)
            · exact below_then hHeld hHeld.size hb5
            clear hK K
            (try simp only [Act.put, List.setIfInBounds_toArray, List.set_cons_zero, List.set_cons_succ])
            first | (refine anyT_take 13 (some 38) (v := ?_) rfl rfl (by kernel_rfl) (by kernel_rfl) (by kernel_rfl) (by kernel_rfl) (fun _ _ _ h => h) (Or.inl ⟨by rfl, ?_⟩) hHeld ?_; rotate_left; focus (intro wq hSw; obtain ⟨hcq, hfq⟩ := bcell hSw; go_simp; (try with_reducible rfl); done))
            (try simp only [Act.put, List.setIfInBounds_toArray, List.set_cons_zero, List.set_cons_succ])
            first | (refine anyT_take 14 (some 39) (v := ?_) rfl rfl (by kernel_rfl) (by kernel_rfl) (by kernel_rfl) (by kernel_rfl) (fun _ _ _ h => h) (Or.inl ⟨by rfl, ?_⟩) hHeld ?_; rotate_left; focus (intro wq hSw; obtain ⟨hcq, hfq⟩ := bcell hSw; go_simp; (try with_reducible rfl); done))
            (try simp only [Act.put, List.setIfInBounds_toArray, List.set_cons_zero, List.set_cons_succ])
            refine anyT_done (by kernel_rfl) ?_ _
            have Hh := Lib.hid hHeld
            have Ho5 := Lib.hid (Hown.out.keep hHeld)
            clear hHeld c2 f2 l2 p0 p1 p2 pbl
            go_wp2
            go_roundg (B.players.length - (k + 1))
            case measure => have := Hgk.out; omega
            case rel => exact ⟨k + 1, by omega, rfl, by go_num, by rw [Hs.out]; exact Ho5.out, below_then Hbe.out Hbe.out.size Hh.out⟩
        · obtain rfl : k = B.players.length := by omega
          obtain ⟨A', c', rfl, hi', hc', hm', _, h0⟩ := Hown.out.reads
          have Hi' := Lib.hid hi'
          clear hi'
          go_wp2
          go_ret2
          exact ⟨.inr (.inr ⟨Hg.out, Hi.out, A', c', (by rw [lastL_five g.out]; rfl), by rw [lastL_five g.out]; exact Hi'.out⟩), HbW.out⟩
end
end Go.Proofs.YtljikigmfkfkiaaDoor
