import Derived.Test.YtgfbfbfajnfbjaaDoorD
import Derived.Test.YtgfbfbfajnfbjaaDoorBB
namespace Go.Proofs.YtgfbfbfajnfbjaaDoor
section
set_option linter.unusedVariables false
set_option linter.unusedSimpArgs false
open Go.RowKit Go.Shelf
set_option maxRecDepth 100000 in
set_option maxHeartbeats 4000000 in
/-- the law's own reading of a valid book -/
theorem sound_calls (B : ForgeV) (w : World) (hB : B.Reads w) :
    Calls Tryd.prog 43 #[B.val] w fun e w' => e = .returned (.bool (goodF B)) ∧ Below w.heap.size w w' := by
  have HB := Lib.hid hB
  obtain ⟨⟨hll, hlc⟩, ⟨hsl, hsc⟩, ⟨hkl, hkc⟩⟩ := hB
  have Hlc := Lib.hid hlc
  have Hsc := Lib.hid hsc
  have Hkc := Lib.hid hkc
  clear hlc hsc hkc
  have hcells : B.val = .agg B.cells := rfl
  rw [hcells]
  unfold ForgeV.cells
  go_enter Tryd.func43, Tryd.ntmps43
  go_upto_region 1 with fail
  have k1 := BoxAt.new w B.cells 28
  have H1 : Below w.heap.size w (w.alloc (.cells B.cells 28)) := (Below.refl _ _).alloc (Nat.le_refl _) _
  unfold ForgeV.cells at k1 H1
  generalize w.alloc _ = w1 at *
  have K1 := Lib.hid k1
  obtain ⟨c1, f1, l1⟩ := k1
  have HB1 := Lib.hid (HB.out.below H1)
  clear HB
  cases hg : goodF B with
  | false =>
    go_wp2_with (first
      | (go_at_call 20; refine (Check_calls B _ HB1.out).mono ?_; rintro e w' ⟨rfl, hb⟩; rw [hg]; have H2 := below_then H1 H1.size hb; have k2 := K1.out.below hb; clear hb H1 c1 f1 l1 K1; obtain ⟨c2, f2, l2⟩ := k2))
    refine wp_loop_rounds 1 ?_
    rw [rounds_succ]
    go_wp2
    refine wp_loop_rounds 1 ?_
    rw [rounds_succ]
    go_wp2
    refine wp_loop_rounds 1 ?_
    rw [rounds_succ]
    go_wp2
    go_ret
    exact ⟨by rw [hg]; rfl, H2⟩
  | true =>
    obtain ⟨hG1, hG2, hG3, hG4, hG5, hG6, hG7, hG8, hG9, hG10, hG11, hG12, hG13, hG14⟩ := (goodF_iff B).1 hg
    have e1 : inB B.lots.length 1 4 = true := (inB_iff ..).2 (by omega)
    have e2 : spanB B.tlo B.thi 0 1000 = true := (spanB_iff ..).2 hG2
    have e3 : inB B.thick 1 3000 = true := (inB_iff ..).2 hG3
    have e4 : inB B.crack 0 3000 = true := (inB_iff ..).2 hG4
    have e5 : spanB B.glo B.ghi 0 3000 = true := (spanB_iff ..).2 hG5
    have e6 : inB B.hot 0 1500 = true := (inB_iff ..).2 hG7
    have e7 : inB B.least 0 B.hot = true := (inB_iff ..).2 hG8
    have e8 : spanB B.clo B.chi 1 300 = true := (spanB_iff ..).2 hG9
    have e9 : inB B.coal 0 100 = true := (inB_iff ..).2 hG10
    have t3 : (B.thins.length : Int) = 3 := by omega
    have t8 : (B.looks.length : Int) ≤ 8 := by omega
    have HG12 := Lib.hid hG12
    have HG13 := Lib.hid hG13
    have HG14 := Lib.hid hG14
    clear hG1 hG2 hG3 hG4 hG5 hG6 hG7 hG8 hG9 hG10 hG11 hG12 hG13 hG14
    go_upto_block 0 with (first
      | (go_at_call 20; refine (Check_calls B _ HB1.out).mono ?_; rintro e w2 ⟨rfl, hb⟩; rw [hg]; have H2 := Lib.hid (below_then H1 H1.size hb); have HB2 := Lib.hid (HB1.out.below hb); have k2 := K1.out.below hb; clear hb H1 c1 f1 l1 K1 HB1; have Hc : Below w2.heap.size w2 w2 := Below.refl _ _; have K2 := Lib.hid k2; obtain ⟨c2, f2, l2⟩ := k2)
      | (go_at_call 48; refine (Sits_calls _ _ _ _).mono ?_; rintro e w' ⟨rfl, rfl⟩; first | rw [e1] | rw [e3] | rw [e4] | rw [e6] | rw [e7] | rw [e9])
      | (go_at_call 63; refine (Good_calls _ _ _ _ _).mono ?_; rintro e w' ⟨rfl, hb⟩; (first | rw [e2] | rw [e5] | rw [e8]); obtain ⟨c2, f2, l2⟩ := BoxAt.below ⟨c2, f2, l2⟩ hb; have Hc := below_then Hc Hc.size hb; clear hb))
    go_upto_block 0 with (fail)
    go_cut [3] (fun s wn => s = .bool true ∧ Below w2.heap.size w2 wn)
    case first =>
      have Hcc := Lib.hid Hc
      clear Hc
      rcases Hlc.out with he | ⟨b, o, e, hc⟩
      · have hl0 : ¬ 0 < B.lots.length := by rw [he]; simp
        have hz : (B.lots.length : Int) = 0 := by omega
        clear he
        go_wp2
        refine wp_loop_rounds 1 ?_
        rw [rounds_succ]
        go_wp2
        go_meet
        exact ⟨rfl, Hcc.out⟩
      · have Hq := Lib.hid hc
        clear hc
        rw [e] at K2
        rw [e] at c2
        rw [e]
        go_wp2
        go_loopg [4, 3] B.lots.length (fun gq i s wr => ∃ k : Nat, k ≤ B.lots.length ∧ gq = B.lots.length - k ∧ i = .int .i64 k ∧ s = .bool true ∧ Below w2.heap.size w2 wr)
        case atStart => exact ⟨0, Nat.zero_le _, rfl, rfl, rfl, Hcc.out⟩
        case round =>
          obtain ⟨k, hk, hgk, rfl, rfl, hB⟩ := hrel
          clear c2 f2 l2
          obtain ⟨c2, f2, l2⟩ := K2.out.below hB
          have Hgk := Lib.hid hgk
          clear hgk
          by_cases hlt : k < B.lots.length
          · obtain ⟨p0, p1, p2⟩ := Hq.out k hlt
            have hv := HG12.out k hlt
            generalize hpv : gl B.lots k = p at *
            clear hpv
            obtain ⟨bars, lo, hi⟩ := p
            simp only at p0 p1 p2
            replace p0 := cell_below hB (cell_below H2.out p0)
            replace p1 := cell_below hB (cell_below H2.out p1)
            replace p2 := cell_below hB (cell_below H2.out p2)
            have pbl := World.block_lt_of_cell? _ _ p0
            simp only at pbl
            have r1 : inB bars 0 6 = true := (inB_iff ..).2 hv.1
            have r2 : spanB lo hi 0 1000 = true := (spanB_iff ..).2 hv.2
            clear hv
            go_wp2_with (first
              | (go_at_call 48; refine (Sits_calls _ _ _ _).mono ?_; rintro e w' ⟨rfl, rfl⟩; first | rw [r1] | rw [r2] | rw [r3])
              | (go_at_call 63; refine (Good_calls _ _ _ _ _).mono ?_; rintro e w' ⟨rfl, hb⟩; rw [r2]; have hB := below_then hB hB.size hb; clear hb))
            go_roundg (B.lots.length - (k + 1))
            case measure => have := Hgk.out; omega
            case rel => exact ⟨k + 1, by omega, rfl, by go_num, rfl, by first | assumption | exact hB.alloc hB.size _⟩
          · obtain rfl : k = B.lots.length := by omega
            go_wp2
            refine Met.intro ?_
            go_step
            (repeat apply Exists.intro)
            refine ⟨⟨rfl, hB⟩, ?_⟩
            rw [e]
    case rest =>
      obtain ⟨rfl, Hc⟩ := hcut
      obtain ⟨c2, f2, l2⟩ := K2.out.below Hc
      generalize wc = w3 at *
      go_upto_block 2 with (fail)
      go_cut [3] (fun s wn => s = .bool true ∧ Below w2.heap.size w2 wn)
      case first =>
        have Hcc := Lib.hid Hc
        clear Hc
        rcases Hsc.out with he | ⟨b, o, e, hc⟩
        · exfalso; rw [he] at t3; simp at t3
        · have Hq := Lib.hid hc
          clear hc
          rw [e] at K2
          rw [e] at c2
          rw [e]
          go_wp2
          go_loopg [5, 3] B.thins.length (fun gq i s wr => ∃ k : Nat, k ≤ B.thins.length ∧ gq = B.thins.length - k ∧ i = .int .i64 k ∧ s = .bool true ∧ Below w2.heap.size w2 wr)
          case atStart => exact ⟨0, Nat.zero_le _, rfl, rfl, rfl, Hcc.out⟩
          case round =>
            obtain ⟨k, hk, hgk, rfl, rfl, hB⟩ := hrel
            clear c2 f2 l2
            obtain ⟨c2, f2, l2⟩ := K2.out.below hB
            have Hgk := Lib.hid hgk
            clear hgk
            by_cases hlt : k < B.thins.length
            · obtain ⟨p0, p1⟩ := Hq.out k hlt
              have hv := HG13.out k (by omega)
              generalize hpv : gs B.thins k = p at *
              clear hpv
              obtain ⟨lo, hi⟩ := p
              simp only at p0 p1
              replace p0 := cell_below hB (cell_below H2.out p0)
              replace p1 := cell_below hB (cell_below H2.out p1)
              have pbl := World.block_lt_of_cell? _ _ p0
              simp only at pbl
              have r2 : spanB lo hi 1 20 = true := (spanB_iff ..).2 hv
              clear hv
              go_wp2_with (first
                | (go_at_call 63; refine (Good_calls _ _ _ _ _).mono ?_; rintro e w' ⟨rfl, hb⟩; rw [r2]; have hB := below_then hB hB.size hb; clear hb))
              go_roundg (B.thins.length - (k + 1))
              case measure => have := Hgk.out; omega
              case rel => exact ⟨k + 1, by omega, rfl, by go_num, rfl, by first | assumption | exact hB.alloc hB.size _⟩
            · obtain rfl : k = B.thins.length := by omega
              go_wp2
              refine Met.intro ?_
              go_step
              (repeat apply Exists.intro)
              refine ⟨⟨rfl, hB⟩, ?_⟩
              rw [e]
      case rest =>
        obtain ⟨rfl, Hc⟩ := hcut
        obtain ⟨c2, f2, l2⟩ := K2.out.below Hc
        generalize wc = w4 at *
        go_upto_block 4 with (fail)
        go_cut [3] (fun s wn => s = .bool true ∧ Below w2.heap.size w2 wn)
        case first =>
          have Hcc := Lib.hid Hc
          clear Hc
          rcases Hkc.out with he | ⟨b, o, e, hc⟩
          · have hl0 : ¬ 0 < B.looks.length := by rw [he]; simp
            have hz : (B.looks.length : Int) = 0 := by omega
            clear he
            go_wp2
            refine wp_loop_rounds 1 ?_
            rw [rounds_succ]
            go_wp2
            go_meet
            exact ⟨rfl, Hcc.out⟩
          · have Hq := Lib.hid hc
            clear hc
            rw [e] at K2
            rw [e] at c2
            rw [e]
            go_wp2
            go_loopg [6, 3] B.looks.length (fun gq i s wr => ∃ k : Nat, k ≤ B.looks.length ∧ gq = B.looks.length - k ∧ i = .int .i64 k ∧ s = .bool true ∧ Below w2.heap.size w2 wr)
            case atStart => exact ⟨0, Nat.zero_le _, rfl, rfl, rfl, Hcc.out⟩
            case round =>
              obtain ⟨k, hk, hgk, rfl, rfl, hB⟩ := hrel
              clear c2 f2 l2
              obtain ⟨c2, f2, l2⟩ := K2.out.below hB
              have Hgk := Lib.hid hgk
              clear hgk
              by_cases hlt : k < B.looks.length
              · obtain ⟨p0, p1, p2⟩ := Hq.out k hlt
                have hv := HG14.out k hlt
                generalize hpv : glk B.looks k = p at *
                clear hpv
                obtain ⟨bl, th, er⟩ := p
                simp only at p0 p1 p2
                replace p0 := cell_below hB (cell_below H2.out p0)
                replace p1 := cell_below hB (cell_below H2.out p1)
                replace p2 := cell_below hB (cell_below H2.out p2)
                have pbl := World.block_lt_of_cell? _ _ p0
                simp only at pbl
                have r1 : inB bl 0 300 = true := (inB_iff ..).2 hv.1
                have r2 : inB th 0 3000 = true := (inB_iff ..).2 hv.2.1
                have r3 : inB er 0 50 = true := (inB_iff ..).2 hv.2.2
                clear hv
                go_wp2_with (first
                  | (go_at_call 48; refine (Sits_calls _ _ _ _).mono ?_; rintro e w' ⟨rfl, rfl⟩; first | rw [r1] | rw [r2] | rw [r3]))
                go_roundg (B.looks.length - (k + 1))
                case measure => have := Hgk.out; omega
                case rel => exact ⟨k + 1, by omega, rfl, by go_num, rfl, by first | assumption | exact hB.alloc hB.size _⟩
              · obtain rfl : k = B.looks.length := by omega
                go_wp2
                refine Met.intro ?_
                go_step
                (repeat apply Exists.intro)
                refine ⟨⟨rfl, hB⟩, ?_⟩
                rw [e]
        case rest =>
          obtain ⟨rfl, Hc⟩ := hcut
          obtain ⟨c2, f2, l2⟩ := K2.out.below Hc
          generalize wc = w5 at *
          go_wp2
          go_ret
          exact ⟨by rw [hg]; rfl, below_then H2.out H2.out.size Hc⟩
end
end Go.Proofs.YtgfbfbfajnfbjaaDoor
