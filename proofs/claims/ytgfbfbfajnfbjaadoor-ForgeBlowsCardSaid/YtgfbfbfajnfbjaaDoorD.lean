import Derived.Test.YtgfbfbfajnfbjaaDoorC
namespace Go.Proofs.YtgfbfbfajnfbjaaDoor
section
set_option linter.unusedVariables false
set_option linter.unusedSimpArgs false
open Go.RowKit Go.Shelf
theorem dec3 {n : Nat} : ((n : Int) == 3) = decide (n = 3) := by rw [Bool.eq_iff_iff]; simp; omega
theorem dec8 {n : Nat} : decide ((n : Int) ≤ 8) = decide (n ≤ 8) := by rw [Bool.eq_iff_iff]; simp; omega
theorem chain5 (a b c d e : Bool) : a = false ∨ (a = true ∧ b = false) ∨ (a = true ∧ b = true ∧ c = false) ∨ (a = true ∧ b = true ∧ c = true ∧ d = false) ∨ (a = true ∧ b = true ∧ c = true ∧ d = true ∧ e = false) ∨ (a = true ∧ b = true ∧ c = true ∧ d = true ∧ e = true) := by cases a <;> cases b <;> cases c <;> cases d <;> cases e <;> simp
theorem lotsB_succ (l : List LotV) (k : Nat) : lotsB l (k + 1) = (lotsB l k && lotB (gl l k)) := range_all_succ _ _
theorem thinsB_succ (l : List (Int × Int)) (k : Nat) : thinsB l (k + 1) = (thinsB l k && thinB (gs l k)) := range_all_succ _ _
theorem looksB_succ (l : List LookV) (k : Nat) : looksB l (k + 1) = (looksB l k && lookB (glk l k)) := range_all_succ _ _
set_option maxRecDepth 100000 in
set_option maxHeartbeats 4000000 in
theorem Check_calls (B : ForgeV) (w : World) (hB : B.Reads w) :
    Calls Tryd.prog 20 #[B.val] w fun e w' => e = .returned (.int .i64 (bif goodF B then 0 else 20)) ∧ Below w.heap.size w w' := by
  obtain ⟨⟨hll, hlc⟩, ⟨hsl, hsc⟩, ⟨hkl, hkc⟩⟩ := hB
  have Hlc := Lib.hid hlc
  have Hsc := Lib.hid hsc
  have Hkc := Lib.hid hkc
  clear hlc hsc hkc
  unfold ForgeV.val ForgeV.cells
  go_enter Tryd.func20, Tryd.ntmps20
  go_upto_region 1 with fail
  have k1 := BoxAt.new w B.cells 28
  have H1 : Below w.heap.size w (w.alloc (.cells B.cells 28)) := (Below.refl _ _).alloc (Nat.le_refl _) _
  unfold ForgeV.cells at k1 H1
  generalize w.alloc _ = w1 at *
  have K1 := Lib.hid k1
  obtain ⟨c1, f1, l1⟩ := k1
  go_cut [3] (fun s w2 => s = .bool (head1B B) ∧ Below w1.heap.size w1 w2)
  case first =>
    have Hc : Below w1.heap.size w1 w1 := Below.refl _ _
    rcases chain2 (inB B.lots.length 1 4) (spanB B.tlo B.thi 0 1000) with h1 | ⟨h1, h2⟩ | ⟨h1, h2⟩
    all_goals
      go_wp2_with (first
        | (go_at_call 65; refine (in_calls _ _ _ _).mono ?_; rintro e w' ⟨rfl, rfl⟩)
        | (go_at_call 68; refine (isSpan_calls _ _ _ _ _).mono ?_; rintro e w' ⟨rfl, hb⟩; have Hc := below_then Hc Hc.size hb; clear hb))
      go_meet
      refine ⟨by simp [head1B, *], by assumption⟩
  case rest =>
    obtain ⟨rfl, hb⟩ := hcut
    have H2 := below_then H1 H1.size hb
    have k2 := K1.out.below hb
    clear hb H1 c1 f1 l1 K1
    generalize wc = w2 at *
    generalize hh : head1B B = h at *
    have Hh := Lib.hid hh
    clear hh
    have K2 := Lib.hid k2
    obtain ⟨c2, f2, l2⟩ := k2
    go_upto_region 2 with fail
    go_cut [3] (fun s w3 => s = .bool (h && head2B B) ∧ Below w2.heap.size w2 w3)
    case first =>
      cases h with
      | false =>
        go_wp2
        go_meet
        exact ⟨rfl, Below.refl _ _⟩
      | true =>
        have Hc : Below w2.heap.size w2 w2 := Below.refl _ _
        rcases chain3 (inB B.thick 1 3000) (inB B.crack 0 3000) (spanB B.glo B.ghi 0 3000) with h1 | ⟨h1, h2⟩ | ⟨h1, h2, h3⟩ | ⟨h1, h2, h3⟩
        all_goals
          go_wp2_with (first
            | (go_at_call 65; refine (in_calls _ _ _ _).mono ?_; rintro e w' ⟨rfl, rfl⟩)
            | (go_at_call 68; refine (isSpan_calls _ _ _ _ _).mono ?_; rintro e w' ⟨rfl, hb⟩; obtain ⟨c2, f2, l2⟩ := BoxAt.below ⟨c2, f2, l2⟩ hb; have Hc := below_then Hc Hc.size hb; clear hb))
          go_meet
          refine ⟨by simp [head2B, dec3, *], by assumption⟩
    case rest =>
      obtain ⟨rfl, hb⟩ := hcut
      have H3 := below_then H2 H2.size hb
      have k3 := K2.out.below hb
      clear hb H2 c2 f2 l2 K2
      generalize wc = w3 at *
      generalize hh : (h && head2B B) = g at *
      have Hg : Hid (g = (head1B B && head2B B)) := by unfold Hid; rw [← hh, Hh.out]
      clear hh Hh
      have K3 := Lib.hid k3
      obtain ⟨c3, f3, l3⟩ := k3
      go_upto_region 3 with fail
      go_cut [3] (fun s w4 => s = .bool (g && head3B B) ∧ Below w3.heap.size w3 w4)
      case first =>
        cases g with
        | false =>
          go_wp2
          go_meet
          exact ⟨rfl, Below.refl _ _⟩
        | true =>
          have Hc : Below w3.heap.size w3 w3 := Below.refl _ _
          rcases chain4 (inB B.hot 0 1500) (inB B.least 0 B.hot) (spanB B.clo B.chi 1 300) (inB B.coal 0 100) with h1 | ⟨h1, h2⟩ | ⟨h1, h2, h3⟩ | ⟨h1, h2, h3, h4⟩ | ⟨h1, h2, h3, h4⟩
          all_goals
            go_wp2_with (first
              | (go_at_call 65; refine (in_calls _ _ _ _).mono ?_; rintro e w' ⟨rfl, rfl⟩)
              | (go_at_call 68; refine (isSpan_calls _ _ _ _ _).mono ?_; rintro e w' ⟨rfl, hb⟩; obtain ⟨c3, f3, l3⟩ := BoxAt.below ⟨c3, f3, l3⟩ hb; have Hc := below_then Hc Hc.size hb; clear hb))
            go_meet
            refine ⟨by simp [head3B, dec8, *], by assumption⟩
      case rest =>
        obtain ⟨rfl, hb⟩ := hcut
        have H4 := below_then H3 H3.size hb
        have k4 := K3.out.below hb
        clear hb H3 c3 f3 l3 K3
        generalize wc = w4 at *
        generalize hh : (g && head3B B) = g0 at *
        have Hg0 : Hid (g0 = ((head1B B && head2B B) && head3B B)) := by unfold Hid; rw [← hh, Hg.out]
        clear hh Hg
        have K4 := Lib.hid k4
        have H4' := Lib.hid H4
        obtain ⟨c4, f4, l4⟩ := k4
        go_upto_block 0 with (fail)
        clear H4
        go_cut [3] (fun s wn => s = .bool (g0 && lotsB B.lots B.lots.length) ∧ Below w4.heap.size w4 wn)
        case first =>
          clear c4 f4 l4
          rcases Hlc.out with he | ⟨b, o, e, hc⟩
          · have hl0 : ¬ 0 < B.lots.length := by rw [he]; simp
            have hz : (B.lots.length : Int) = 0 := by omega
            have He : Hid (lotsB B.lots B.lots.length = true) := by unfold Hid; rw [he]; rfl
            clear he
            go_wp2
            refine wp_loop_rounds 1 ?_
            rw [rounds_succ]
            go_wp2
            go_meet
            exact ⟨by rw [He.out]; simp, Below.refl _ _⟩
          · have Hc := Lib.hid hc
            clear hc
            rw [e]
            go_wp2
            go_loopg [73, 3] B.lots.length (fun gq i s wr => ∃ k : Nat, k ≤ B.lots.length ∧ gq = B.lots.length - k ∧ i = .int .i64 k ∧ s = .bool (g0 && lotsB B.lots k) ∧ Below w4.heap.size w4 wr)
            case atStart => exact ⟨0, Nat.zero_le _, rfl, rfl, by simp [lotsB], Below.refl _ _⟩
            case round =>
              obtain ⟨k, hk, hgk, rfl, rfl, hB⟩ := hrel
              have Hgk := Lib.hid hgk
              clear hgk
              by_cases hlt : k < B.lots.length
              · obtain ⟨p0, p1, p2⟩ := Hc.out k hlt
                have hs := lotsB_succ B.lots k
                unfold lotB at hs
                have Hs := Lib.hid hs
                clear hs
                generalize hpv : gl B.lots k = p at *
                clear hpv
                obtain ⟨bars, lo, hi⟩ := p
                simp only at p0 p1 p2
                replace p0 := cell_below hB (cell_below H4'.out p0)
                replace p1 := cell_below hB (cell_below H4'.out p1)
                replace p2 := cell_below hB (cell_below H4'.out p2)
                have pbl := World.block_lt_of_cell? _ _ p0
                simp only at pbl
                have HBn := Lib.hid (hB.alloc hB.size (.cells #[.int .i64 bars, .int .i64 lo, .int .i64 hi] 62))
                generalize hx : (g0 && lotsB B.lots k) = x at *
                have Hx := Lib.hid hx
                clear hx hB
                cases x with
                | false =>
                  go_wp2
                  go_roundg (B.lots.length - (k + 1))
                  case measure => have := Hgk.out; omega
                  case rel => exact ⟨k + 1, by omega, rfl, by go_num, by rw [Hs.out, ← Bool.and_assoc, Hx.out]; rfl, HBn.out⟩
                | true =>
                  rcases chain2 (inB bars 0 6) (spanB lo hi 0 1000) with h1 | ⟨h1, h2⟩ | ⟨h1, h2⟩
                  all_goals
                    go_wp2_with (first
                      | (go_at_call 65; refine (in_calls _ _ _ _).mono ?_; rintro e w' ⟨rfl, rfl⟩)
                      | (go_at_call 68; refine (isSpan_calls _ _ _ _ _).mono ?_; rintro e w' ⟨rfl, hb⟩))
                    go_roundg (B.lots.length - (k + 1))
                    case measure => have := Hgk.out; omega
                    case rel => exact ⟨k + 1, by omega, rfl, by go_num, by rw [Hs.out, ← Bool.and_assoc, Hx.out]; simp [*], by first | exact HBn.out | exact below_then HBn.out HBn.out.size (by assumption)⟩
              · obtain rfl : k = B.lots.length := by omega
                go_wp2
                refine Met.intro ?_
                go_step
                (repeat apply Exists.intro)
                refine ⟨⟨rfl, hB⟩, ?_⟩
                rw [e]
        case rest =>
          obtain ⟨rfl, hb⟩ := hcut
          have H5 := below_then H4'.out H4'.out.size hb
          have k5 := K4.out.below hb
          clear hb H4' c4 f4 l4 K4
          generalize wc = w5 at *
          generalize hh : (g0 && lotsB B.lots B.lots.length) = g1 at *
          have Hg1 : Hid (g1 = (((head1B B && head2B B) && head3B B) && lotsB B.lots B.lots.length)) := by unfold Hid; rw [← hh, Hg0.out]
          clear hh Hg0
          have K5 := Lib.hid k5
          have H5' := Lib.hid H5
          obtain ⟨c5, f5, l5⟩ := k5
          go_upto_block 2 with (fail)
          clear H5
          go_cut [3] (fun s wn => s = .bool (g1 && thinsB B.thins B.thins.length) ∧ Below w5.heap.size w5 wn)
          case first =>
            clear c5 f5 l5
            rcases Hsc.out with he | ⟨b, o, e, hc⟩
            · have hl0 : ¬ 0 < B.thins.length := by rw [he]; simp
              have hz : (B.thins.length : Int) = 0 := by omega
              have He : Hid (thinsB B.thins B.thins.length = true) := by unfold Hid; rw [he]; rfl
              clear he
              go_wp2
              refine wp_loop_rounds 1 ?_
              rw [rounds_succ]
              go_wp2
              go_meet
              exact ⟨by rw [He.out]; simp, Below.refl _ _⟩
            · have Hc := Lib.hid hc
              clear hc
              rw [e]
              go_wp2
              go_loopg [92, 3] B.thins.length (fun gq i s wr => ∃ k : Nat, k ≤ B.thins.length ∧ gq = B.thins.length - k ∧ i = .int .i64 k ∧ s = .bool (g1 && thinsB B.thins k) ∧ Below w5.heap.size w5 wr)
              case atStart => exact ⟨0, Nat.zero_le _, rfl, rfl, by simp [thinsB], Below.refl _ _⟩
              case round =>
                obtain ⟨k, hk, hgk, rfl, rfl, hB⟩ := hrel
                have Hgk := Lib.hid hgk
                clear hgk
                by_cases hlt : k < B.thins.length
                · obtain ⟨p0, p1⟩ := Hc.out k hlt
                  have hs := thinsB_succ B.thins k
                  unfold thinB at hs
                  have Hs := Lib.hid hs
                  clear hs
                  generalize hpv : gs B.thins k = p at *
                  clear hpv
                  obtain ⟨lo, hi⟩ := p
                  simp only at p0 p1
                  replace p0 := cell_below hB (cell_below H5'.out p0)
                  replace p1 := cell_below hB (cell_below H5'.out p1)
                  have pbl := World.block_lt_of_cell? _ _ p0
                  simp only at pbl
                  have HBn := Lib.hid (hB.alloc hB.size (.cells #[.int .i64 lo, .int .i64 hi] 24))
                  generalize hx : (g1 && thinsB B.thins k) = x at *
                  have Hx := Lib.hid hx
                  clear hx hB
                  cases x with
                  | false =>
                    go_wp2
                    go_roundg (B.thins.length - (k + 1))
                    case measure => have := Hgk.out; omega
                    case rel => exact ⟨k + 1, by omega, rfl, by go_num, by rw [Hs.out, ← Bool.and_assoc, Hx.out]; rfl, HBn.out⟩
                  | true =>
                    rcases chain1 (spanB lo hi 1 20) with h1 | h1
                    all_goals
                      go_wp2_with (first
                        | (go_at_call 65; refine (in_calls _ _ _ _).mono ?_; rintro e w' ⟨rfl, rfl⟩)
                        | (go_at_call 68; refine (isSpan_calls _ _ _ _ _).mono ?_; rintro e w' ⟨rfl, hb⟩))
                      go_roundg (B.thins.length - (k + 1))
                      case measure => have := Hgk.out; omega
                      case rel => exact ⟨k + 1, by omega, rfl, by go_num, by rw [Hs.out, ← Bool.and_assoc, Hx.out]; simp [*], by first | exact HBn.out | exact below_then HBn.out HBn.out.size (by assumption)⟩
                · obtain rfl : k = B.thins.length := by omega
                  go_wp2
                  refine Met.intro ?_
                  go_step
                  (repeat apply Exists.intro)
                  refine ⟨⟨rfl, hB⟩, ?_⟩
                  rw [e]
          case rest =>
            obtain ⟨rfl, hb⟩ := hcut
            have H6 := below_then H5'.out H5'.out.size hb
            have k6 := K5.out.below hb
            clear hb H5' c5 f5 l5 K5
            generalize wc = w6 at *
            generalize hh : (g1 && thinsB B.thins B.thins.length) = g2 at *
            have Hg2 : Hid (g2 = ((((head1B B && head2B B) && head3B B) && lotsB B.lots B.lots.length) && thinsB B.thins B.thins.length)) := by unfold Hid; rw [← hh, Hg1.out]
            clear hh Hg1
            have K6 := Lib.hid k6
            have H6' := Lib.hid H6
            obtain ⟨c6, f6, l6⟩ := k6
            go_upto_block 4 with (fail)
            clear H6
            go_cut [3] (fun s wn => s = .bool (g2 && looksB B.looks B.looks.length) ∧ Below w6.heap.size w6 wn)
            case first =>
              clear c6 f6 l6
              rcases Hkc.out with he | ⟨b, o, e, hc⟩
              · have hl0 : ¬ 0 < B.looks.length := by rw [he]; simp
                have hz : (B.looks.length : Int) = 0 := by omega
                have He : Hid (looksB B.looks B.looks.length = true) := by unfold Hid; rw [he]; rfl
                clear he
                go_wp2
                refine wp_loop_rounds 1 ?_
                rw [rounds_succ]
                go_wp2
                go_meet
                exact ⟨by rw [He.out]; simp, Below.refl _ _⟩
              · have Hc := Lib.hid hc
                clear hc
                rw [e]
                go_wp2
                go_loopg [105, 3] B.looks.length (fun gq i s wr => ∃ k : Nat, k ≤ B.looks.length ∧ gq = B.looks.length - k ∧ i = .int .i64 k ∧ s = .bool (g2 && looksB B.looks k) ∧ Below w6.heap.size w6 wr)
                case atStart => exact ⟨0, Nat.zero_le _, rfl, rfl, by simp [looksB], Below.refl _ _⟩
                case round =>
                  obtain ⟨k, hk, hgk, rfl, rfl, hB⟩ := hrel
                  have Hgk := Lib.hid hgk
                  clear hgk
                  by_cases hlt : k < B.looks.length
                  · obtain ⟨p0, p1, p2⟩ := Hc.out k hlt
                    have hs := looksB_succ B.looks k
                    unfold lookB at hs
                    have Hs := Lib.hid hs
                    clear hs
                    generalize hpv : glk B.looks k = p at *
                    clear hpv
                    obtain ⟨bl, th, er⟩ := p
                    simp only at p0 p1 p2
                    replace p0 := cell_below hB (cell_below H6'.out p0)
                    replace p1 := cell_below hB (cell_below H6'.out p1)
                    replace p2 := cell_below hB (cell_below H6'.out p2)
                    have pbl := World.block_lt_of_cell? _ _ p0
                    simp only at pbl
                    have HBn := Lib.hid (hB.alloc hB.size (.cells #[.int .i64 bl, .int .i64 th, .int .i64 er] 75))
                    generalize hx : (g2 && looksB B.looks k) = x at *
                    have Hx := Lib.hid hx
                    clear hx hB
                    cases x with
                    | false =>
                      go_wp2
                      go_roundg (B.looks.length - (k + 1))
                      case measure => have := Hgk.out; omega
                      case rel => exact ⟨k + 1, by omega, rfl, by go_num, by rw [Hs.out, ← Bool.and_assoc, Hx.out]; rfl, HBn.out⟩
                    | true =>
                      rcases chain3 (inB bl 0 300) (inB th 0 3000) (inB er 0 50) with h1 | ⟨h1, h2⟩ | ⟨h1, h2, h3⟩ | ⟨h1, h2, h3⟩
                      all_goals
                        go_wp2_with (first
                          | (go_at_call 65; refine (in_calls _ _ _ _).mono ?_; rintro e w' ⟨rfl, rfl⟩)
                          | (go_at_call 68; refine (isSpan_calls _ _ _ _ _).mono ?_; rintro e w' ⟨rfl, hb⟩))
                        go_roundg (B.looks.length - (k + 1))
                        case measure => have := Hgk.out; omega
                        case rel => exact ⟨k + 1, by omega, rfl, by go_num, by rw [Hs.out, ← Bool.and_assoc, Hx.out]; simp [*], by first | exact HBn.out | exact below_then HBn.out HBn.out.size (by assumption)⟩
                  · obtain rfl : k = B.looks.length := by omega
                    go_wp2
                    refine Met.intro ?_
                    go_step
                    (repeat apply Exists.intro)
                    refine ⟨⟨rfl, hB⟩, ?_⟩
                    rw [e]
            case rest =>
              obtain ⟨rfl, hb⟩ := hcut
              have H7 := below_then H6'.out H6'.out.size hb
              have k7 := K6.out.below hb
              clear hb H6' c6 f6 l6 K6
              generalize wc = w7 at *
              generalize hh : (g2 && looksB B.looks B.looks.length) = g3 at *
              have Hg3 : Hid (g3 = (((((head1B B && head2B B) && head3B B) && lotsB B.lots B.lots.length) && thinsB B.thins B.thins.length) && looksB B.looks B.looks.length)) := by unfold Hid; rw [← hh, Hg2.out]
              clear hh Hg2
              have Hv : Hid ((bif goodF B then (0 : Int) else 20) = (bif g3 then 0 else 20)) := by unfold Hid; rw [Hg3.out]; rfl
              clear Hg3
              cases g3
              all_goals
                go_wp2
                go_ret
                exact ⟨by rw [Hv.out]; rfl, H7⟩

end
end Go.Proofs.YtgfbfbfajnfbjaaDoor
