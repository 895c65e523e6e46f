import Derived.Test.YtgfbfbfajnfbjaaDoorBH
import Derived.Test.YtgfbfbfajnfbjaaDoorCE
namespace Go.Proofs.YtgfbfbfajnfbjaaDoor
section
set_option linter.unusedVariables false
set_option linter.unusedSimpArgs false
open Go.RowKit Go.Shelf
/-! The reference's Check: the same as the program's. -/
theorem all_false {f : Nat → Bool} {k n : Nat} (hk : k ≤ n) (h : (List.range k).all f = false) : (List.range n).all f = false := by
  cases hn : (List.range n).all f with
  | false => rfl
  | true =>
    rw [List.all_eq_true] at hn
    have : (List.range k).all f = true := by
      rw [List.all_eq_true]
      intro j hj
      exact hn j (List.mem_range.2 (by have := List.mem_range.1 hj; omega))
    rw [h] at this; cases this
theorem and_false_of {g a b : Bool} (h : (g && a) = false) (hab : a = false → b = false) : (g && b) = false := by
  cases g
  · rfl
  · exact hab (by simpa using h)
theorem chain6 (a b c d e f : Bool) : a = false ∨ (a = true ∧ b = false) ∨ (a = true ∧ b = true ∧ c = false) ∨ (a = true ∧ b = true ∧ c = true ∧ d = false) ∨ (a = true ∧ b = true ∧ c = true ∧ d = true ∧ e = false) ∨ (a = true ∧ b = true ∧ c = true ∧ d = true ∧ e = true ∧ f = false) ∨ (a = true ∧ b = true ∧ c = true ∧ d = true ∧ e = true ∧ f = true) := by cases a <;> cases b <;> cases c <;> cases d <;> cases e <;> cases f <;> simp
set_option maxRecDepth 100000 in
set_option maxHeartbeats 8000000 in
theorem refCheck_calls (B : ForgeV) (w : World) (hB : B.Reads w) :
    Calls Tryd.prog 21 #[B.val] w fun e w' => e = .returned (.int .i64 (bif goodF B then 0 else 20)) ∧ Below w.heap.size w w' := by
  obtain ⟨⟨hll, hlc⟩, ⟨hsl, hsc⟩, ⟨hkl, hkc⟩⟩ := hB
  have Hlc := Lib.hid hlc
  have Hsc := Lib.hid hsc
  have Hkc := Lib.hid hkc
  clear hlc hsc hkc
  unfold ForgeV.val ForgeV.cells
  go_enter Tryd.func21, Tryd.ntmps21
  go_upto_region 1 with fail
  have k1 := BoxAt.new w B.cells 28
  have H1 : Below w.heap.size w (w.alloc (.cells B.cells 28)) := (Below.refl _ _).alloc (Nat.le_refl _) _
  unfold ForgeV.cells at k1 H1
  generalize w.alloc _ = w1 at *
  have K1 := Lib.hid k1
  obtain ⟨c1, f1, l1⟩ := k1
  go_cut [3] (fun s w2 => s = .bool (head1B B && head2B B) ∧ Below w1.heap.size w1 w2)
  case first =>
    have Hc : Below w1.heap.size w1 w1 := Below.refl _ _
    rcases chain6 (inB B.lots.length 1 4) (spanB B.tlo B.thi 0 1000) (inB B.thick 1 3000) (inB B.crack 0 3000) (spanB B.glo B.ghi 0 3000) ((B.thins.length : Int) == 3) with h1 | ⟨h1, h2⟩ | ⟨h1, h2, h3⟩ | ⟨h1, h2, h3, h4⟩ | ⟨h1, h2, h3, h4, h5⟩ | ⟨h1, h2, h3, h4, h5, h6⟩ | ⟨h1, h2, h3, h4, h5, h6⟩
    all_goals
      go_wp2_with (first
        | (go_at_call 48; refine (Sits_calls _ _ _ _).mono ?_; rintro e w' ⟨rfl, rfl⟩)
        | (go_at_call 63; refine (Good_calls _ _ _ _ _).mono ?_; rintro e w' ⟨rfl, hb⟩; obtain ⟨c1, f1, l1⟩ := BoxAt.below ⟨c1, f1, l1⟩ hb; have Hc := below_then Hc Hc.size hb; clear hb))
      go_meet
      refine ⟨by first | (rw [dec3] at h6; simp [head1B, head2B, *]) | simp [head1B, head2B, *], by assumption⟩
  case rest =>
    obtain ⟨rfl, hb⟩ := hcut
    have H3 := below_then H1 H1.size hb
    have k3 := K1.out.below hb
    clear hb H1 c1 f1 l1 K1
    generalize wc = w3 at *
    generalize hh : (head1B B && head2B B) = g at *
    have Hg : Hid (g = (head1B B && head2B B)) := by unfold Hid; rw [← hh]
    clear hh
    have K3 := Lib.hid k3
    obtain ⟨c3, f3, l3⟩ := k3
    go_upto_region 2 with fail
    go_cut [3] (fun s w4 => s = .bool (g && head3B B) ∧ Below w3.heap.size w3 w4)
    case first =>
      cases g with
      | false =>
        go_wp2
        go_meet
        exact ⟨rfl, Below.refl _ _⟩
      | true =>
        have Hc : Below w3.heap.size w3 w3 := Below.refl _ _
        rcases chain5 (inB B.hot 0 1500) (inB B.least 0 B.hot) (spanB B.clo B.chi 1 300) (inB B.coal 0 100) (decide ((B.looks.length : Int) ≤ 8)) with h1 | ⟨h1, h2⟩ | ⟨h1, h2, h3⟩ | ⟨h1, h2, h3, h4⟩ | ⟨h1, h2, h3, h4, h5⟩ | ⟨h1, h2, h3, h4, h5⟩
        all_goals
          go_wp2_with (first
            | (go_at_call 48; refine (Sits_calls _ _ _ _).mono ?_; rintro e w' ⟨rfl, rfl⟩)
            | (go_at_call 63; refine (Good_calls _ _ _ _ _).mono ?_; rintro e w' ⟨rfl, hb⟩; obtain ⟨c3, f3, l3⟩ := BoxAt.below ⟨c3, f3, l3⟩ hb; have Hc := below_then Hc Hc.size hb; clear hb))
          go_meet
          refine ⟨by first | (rw [dec8] at h5; simp [head3B, *]) | simp [head3B, *], by assumption⟩
    case rest =>
      obtain ⟨rfl, hb⟩ := hcut
      have H4 := below_then H3 H3.size hb
      have k4 := K3.out.below hb
      clear hb H3 c3 f3 l3 K3
      generalize wc = w4 at *
      generalize hh : (g && head3B B) = g0 at *
      have Hg0 : Hid (g0 = ((head1B B && head2B B) && head3B B)) := by unfold Hid; rw [← hh, Hg.out]
      clear hh Hg
      have K4 := Lib.hid k4
      have H4' := Lib.hid H4
      obtain ⟨c4, f4, l4⟩ := k4
      clear H4
      go_upto_block 0 with (fail)
      go_cut [3] (fun s wn => s = .bool (g0 && lotsB B.lots B.lots.length) ∧ Below w4.heap.size w4 wn)
      case first =>
        rcases Hlc.out with he | ⟨b, o, e, hc⟩
        · have hl0 : ¬ 0 < B.lots.length := by rw [he]; simp
          have hz : (B.lots.length : Int) = 0 := by omega
          have He : Hid (lotsB B.lots B.lots.length = true) := by unfold Hid; rw [he]; rfl
          clear he
          cases g0
          all_goals
            go_wp2
            refine wp_loop_rounds 1 ?_
            rw [rounds_succ]
            go_wp2
            go_meet
            exact ⟨by rw [He.out]; rfl, Below.refl _ _⟩
        · have Hc := Lib.hid hc
          clear hc
          have K4e := K4.out
          rw [e] at K4e c4
          have K4 := Lib.hid K4e
          clear K4e
          rw [e]
          go_wp2
          go_loopg [4, 3] B.lots.length (fun gq i s wr => ∃ k : Nat, k ≤ B.lots.length ∧ gq = B.lots.length - k ∧ i = .int .i64 k ∧ s = .bool (g0 && lotsB B.lots k) ∧ Below w4.heap.size w4 wr)
          case atStart => exact ⟨0, Nat.zero_le _, rfl, rfl, by simp [lotsB], Below.refl _ _⟩
          case round =>
            clear c4 f4 l4
            obtain ⟨k, hk, hgk, rfl, rfl, hB⟩ := hrel
            have Hgk := Lib.hid hgk
            obtain ⟨c2, f2, l2⟩ := K4.out.below hB
            clear hgk
            have hff : (g0 && lotsB B.lots k) = false → (g0 && lotsB B.lots B.lots.length) = false := fun h => and_false_of h (fun h => all_false hk h)
            have Hff := Lib.hid hff
            clear hff
            cases hx : (g0 && lotsB B.lots k) with
            | false =>
              have Hf := Lib.hid (Hff.out hx)
              clear hx
              go_wp2
              refine Met.intro ?_
              go_step
              (repeat apply Exists.intro)
              refine ⟨⟨by rw [Hf.out], hB⟩, ?_⟩
              rw [e]
            | true =>
              by_cases hlt : k < B.lots.length
              · obtain ⟨p0, p1, p2⟩ := Hc.out k hlt
                have hs := lotsB_succ B.lots k
                unfold lotB at hs
                have Hs := Lib.hid hs
                clear hs
                have Hx := Lib.hid hx
                clear hx
                have hki : (k : Int) < B.lots.length := by omega
                generalize hpv : gl B.lots k = p at *
                clear hpv
                obtain ⟨bars, lo, hi⟩ := p
                simp only at p0 p1 p2
                replace p0 := cell_below hB (cell_below H4'.out p0)
                replace p1 := cell_below hB (cell_below H4'.out p1)
                replace p2 := cell_below hB (cell_below H4'.out p2)
                have pbl := World.block_lt_of_cell? _ _ p0
                simp only at pbl
                have HBn := Lib.hid hB
                rcases chain2 (inB bars 0 6) (spanB lo hi 0 1000) with h1 | ⟨h1, h2⟩ | ⟨h1, h2⟩
                all_goals
                  have hB := HBn.out
                  go_wp2_with (first
                    | (go_at_call 48; refine (Sits_calls _ _ _ _).mono ?_; rintro e w' ⟨rfl, rfl⟩)
                    | (go_at_call 63; refine (Good_calls _ _ _ _ _).mono ?_; rintro e w' ⟨rfl, hb⟩; have hB := below_then hB hB.size hb; clear hb))
                  go_roundg (B.lots.length - (k + 1))
                  case measure => have := Hgk.out; omega
                  case rel => exact ⟨k + 1, by omega, rfl, by go_num, by rw [Hs.out, ← Bool.and_assoc, Hx.out]; simp [*], by first | assumption | exact hB.alloc hB.size _⟩
              · obtain rfl : k = B.lots.length := by omega
                have Hx := Lib.hid hx
                clear hx
                go_wp2
                refine Met.intro ?_
                go_step
                (repeat apply Exists.intro)
                refine ⟨⟨by rw [Hx.out], hB⟩, ?_⟩
                rw [e]
      case rest =>
        obtain ⟨rfl, hb⟩ := hcut
        have H4'n := below_then H4'.out H4'.out.size hb
        have kn := K4.out.below hb
        clear hb H4' c4 f4 l4 K4
        generalize wc = w5 at *
        generalize hh : (g0 && lotsB B.lots B.lots.length) = g1 at *
        have Hg1 : Hid (g1 = (((head1B B && head2B B) && head3B B) && lotsB B.lots B.lots.length)) := by unfold Hid; rw [← hh, Hg0.out]
        clear hh Hg0
        have K5 := Lib.hid kn
        have H5' := Lib.hid H4'n
        obtain ⟨c5, f5, l5⟩ := kn
        clear H4'n
        go_upto_block 2 with (fail)
        go_cut [3] (fun s wn => s = .bool (g1 && thinsB B.thins B.thins.length) ∧ Below w5.heap.size w5 wn)
        case first =>
          rcases Hsc.out with he | ⟨b, o, e, hc⟩
          · have hl0 : ¬ 0 < B.thins.length := by rw [he]; simp
            have hz : (B.thins.length : Int) = 0 := by omega
            have He : Hid (thinsB B.thins B.thins.length = true) := by unfold Hid; rw [he]; rfl
            clear he
            cases g1
            all_goals
              go_wp2
              refine wp_loop_rounds 1 ?_
              rw [rounds_succ]
              go_wp2
              go_meet
              exact ⟨by rw [He.out]; rfl, Below.refl _ _⟩
          · have Hc := Lib.hid hc
            clear hc
            have K5e := K5.out
            rw [e] at K5e c5
            have K5 := Lib.hid K5e
            clear K5e
            rw [e]
            go_wp2
            go_loopg [5, 3] B.thins.length (fun gq i s wr => ∃ k : Nat, k ≤ B.thins.length ∧ gq = B.thins.length - k ∧ i = .int .i64 k ∧ s = .bool (g1 && thinsB B.thins k) ∧ Below w5.heap.size w5 wr)
            case atStart => exact ⟨0, Nat.zero_le _, rfl, rfl, by simp [thinsB], Below.refl _ _⟩
            case round =>
              clear c5 f5 l5
              obtain ⟨k, hk, hgk, rfl, rfl, hB⟩ := hrel
              have Hgk := Lib.hid hgk
              obtain ⟨c2, f2, l2⟩ := K5.out.below hB
              clear hgk
              have hff : (g1 && thinsB B.thins k) = false → (g1 && thinsB B.thins B.thins.length) = false := fun h => and_false_of h (fun h => all_false hk h)
              have Hff := Lib.hid hff
              clear hff
              cases hx : (g1 && thinsB B.thins k) with
              | false =>
                have Hf := Lib.hid (Hff.out hx)
                clear hx
                go_wp2
                refine Met.intro ?_
                go_step
                (repeat apply Exists.intro)
                refine ⟨⟨by rw [Hf.out], hB⟩, ?_⟩
                rw [e]
              | true =>
                by_cases hlt : k < B.thins.length
                · obtain ⟨p0, p1⟩ := Hc.out k hlt
                  have hs := thinsB_succ B.thins k
                  unfold thinB at hs
                  have Hs := Lib.hid hs
                  clear hs
                  have Hx := Lib.hid hx
                  clear hx
                  have hki : (k : Int) < B.thins.length := by omega
                  generalize hpv : gs B.thins k = p at *
                  clear hpv
                  obtain ⟨lo, hi⟩ := p
                  simp only at p0 p1
                  replace p0 := cell_below hB (cell_below H5'.out p0)
                  replace p1 := cell_below hB (cell_below H5'.out p1)
                  have pbl := World.block_lt_of_cell? _ _ p0
                  simp only at pbl
                  have HBn := Lib.hid hB
                  rcases chain1 (spanB lo hi 1 20) with h1 | h1
                  all_goals
                    have hB := HBn.out
                    go_wp2_with (first
                      | (go_at_call 48; refine (Sits_calls _ _ _ _).mono ?_; rintro e w' ⟨rfl, rfl⟩)
                      | (go_at_call 63; refine (Good_calls _ _ _ _ _).mono ?_; rintro e w' ⟨rfl, hb⟩; have hB := below_then hB hB.size hb; clear hb))
                    go_roundg (B.thins.length - (k + 1))
                    case measure => have := Hgk.out; omega
                    case rel => exact ⟨k + 1, by omega, rfl, by go_num, by rw [Hs.out, ← Bool.and_assoc, Hx.out]; simp [*], by first | assumption | exact hB.alloc hB.size _⟩
                · obtain rfl : k = B.thins.length := by omega
                  have Hx := Lib.hid hx
                  clear hx
                  go_wp2
                  refine Met.intro ?_
                  go_step
                  (repeat apply Exists.intro)
                  refine ⟨⟨by rw [Hx.out], hB⟩, ?_⟩
                  rw [e]
        case rest =>
          obtain ⟨rfl, hb⟩ := hcut
          have H5'n := below_then H5'.out H5'.out.size hb
          have kn := K5.out.below hb
          clear hb H5' c5 f5 l5 K5
          generalize wc = w6 at *
          generalize hh : (g1 && thinsB B.thins B.thins.length) = g2 at *
          have Hg2 : Hid (g2 = ((((head1B B && head2B B) && head3B B) && lotsB B.lots B.lots.length) && thinsB B.thins B.thins.length)) := by unfold Hid; rw [← hh, Hg1.out]
          clear hh Hg1
          have K6 := Lib.hid kn
          have H6' := Lib.hid H5'n
          obtain ⟨c6, f6, l6⟩ := kn
          clear H5'n
          go_upto_block 4 with (fail)
          go_cut [3] (fun s wn => s = .bool (g2 && looksB B.looks B.looks.length) ∧ Below w6.heap.size w6 wn)
          case first =>
            rcases Hkc.out with he | ⟨b, o, e, hc⟩
            · have hl0 : ¬ 0 < B.looks.length := by rw [he]; simp
              have hz : (B.looks.length : Int) = 0 := by omega
              have He : Hid (looksB B.looks B.looks.length = true) := by unfold Hid; rw [he]; rfl
              clear he
              cases g2
              all_goals
                go_wp2
                refine wp_loop_rounds 1 ?_
                rw [rounds_succ]
                go_wp2
                go_meet
                exact ⟨by rw [He.out]; rfl, Below.refl _ _⟩
            · have Hc := Lib.hid hc
              clear hc
              have K6e := K6.out
              rw [e] at K6e c6
              have K6 := Lib.hid K6e
              clear K6e
              rw [e]
              go_wp2
              go_loopg [6, 3] B.looks.length (fun gq i s wr => ∃ k : Nat, k ≤ B.looks.length ∧ gq = B.looks.length - k ∧ i = .int .i64 k ∧ s = .bool (g2 && looksB B.looks k) ∧ Below w6.heap.size w6 wr)
              case atStart => exact ⟨0, Nat.zero_le _, rfl, rfl, by simp [looksB], Below.refl _ _⟩
              case round =>
                clear c6 f6 l6
                obtain ⟨k, hk, hgk, rfl, rfl, hB⟩ := hrel
                have Hgk := Lib.hid hgk
                obtain ⟨c2, f2, l2⟩ := K6.out.below hB
                clear hgk
                have hff : (g2 && looksB B.looks k) = false → (g2 && looksB B.looks B.looks.length) = false := fun h => and_false_of h (fun h => all_false hk h)
                have Hff := Lib.hid hff
                clear hff
                cases hx : (g2 && looksB B.looks k) with
                | false =>
                  have Hf := Lib.hid (Hff.out hx)
                  clear hx
                  go_wp2
                  refine Met.intro ?_
                  go_step
                  (repeat apply Exists.intro)
                  refine ⟨⟨by rw [Hf.out], hB⟩, ?_⟩
                  rw [e]
                | true =>
                  by_cases hlt : k < B.looks.length
                  · obtain ⟨p0, p1, p2⟩ := Hc.out k hlt
                    have hs := looksB_succ B.looks k
                    unfold lookB at hs
                    have Hs := Lib.hid hs
                    clear hs
                    have Hx := Lib.hid hx
                    clear hx
                    have hki : (k : Int) < B.looks.length := by omega
                    generalize hpv : glk B.looks k = p at *
                    clear hpv
                    obtain ⟨bl, th, er⟩ := p
                    simp only at p0 p1 p2
                    replace p0 := cell_below hB (cell_below H6'.out p0)
                    replace p1 := cell_below hB (cell_below H6'.out p1)
                    replace p2 := cell_below hB (cell_below H6'.out p2)
                    have pbl := World.block_lt_of_cell? _ _ p0
                    simp only at pbl
                    have HBn := Lib.hid hB
                    rcases chain3 (inB bl 0 300) (inB th 0 3000) (inB er 0 50) with h1 | ⟨h1, h2⟩ | ⟨h1, h2, h3⟩ | ⟨h1, h2, h3⟩
                    all_goals
                      have hB := HBn.out
                      go_wp2_with (first
                        | (go_at_call 48; refine (Sits_calls _ _ _ _).mono ?_; rintro e w' ⟨rfl, rfl⟩)
                        | (go_at_call 63; refine (Good_calls _ _ _ _ _).mono ?_; rintro e w' ⟨rfl, hb⟩; have hB := below_then hB hB.size hb; clear hb))
                      go_roundg (B.looks.length - (k + 1))
                      case measure => have := Hgk.out; omega
                      case rel => exact ⟨k + 1, by omega, rfl, by go_num, by rw [Hs.out, ← Bool.and_assoc, Hx.out]; simp [*], by first | assumption | exact hB.alloc hB.size _⟩
                  · obtain rfl : k = B.looks.length := by omega
                    have Hx := Lib.hid hx
                    clear hx
                    go_wp2
                    refine Met.intro ?_
                    go_step
                    (repeat apply Exists.intro)
                    refine ⟨⟨by rw [Hx.out], hB⟩, ?_⟩
                    rw [e]
          case rest =>
            obtain ⟨rfl, hb⟩ := hcut
            have H6'n := below_then H6'.out H6'.out.size hb
            have kn := K6.out.below hb
            clear hb H6' c6 f6 l6 K6
            generalize wc = w7 at *
            generalize hh : (g2 && looksB B.looks B.looks.length) = g3 at *
            have Hg3 : Hid (g3 = (((((head1B B && head2B B) && head3B B) && lotsB B.lots B.lots.length) && thinsB B.thins B.thins.length) && looksB B.looks B.looks.length)) := by unfold Hid; rw [← hh, Hg2.out]
            clear hh Hg2
            have K7 := Lib.hid kn
            have H7' := Lib.hid H6'n
            obtain ⟨c7, f7, l7⟩ := kn
            clear H6'n
            have Hv : Hid ((bif goodF B then (0 : Int) else 20) = (bif g3 then 0 else 20)) := by unfold Hid; rw [Hg3.out]; rfl
            clear Hg3
            cases g3
            all_goals
              go_wp2
              go_ret
              exact ⟨by rw [Hv.out]; rfl, H7'.out⟩
end
end Go.Proofs.YtgfbfbfajnfbjaaDoor

namespace Go.Proofs.YtgfbfbfajnfbjaaDoor
section
open Go.RowKit Go.Shelf
set_option linter.unusedSimpArgs false
set_option linter.unusedVariables false
/-! The reference's words about melts: right ones, and bars that are one. -/
theorem right_sum {B : ForgeV} {m : List Int} (h4 : m.length ≤ 4) (hb : ∀ k, 0 ≤ gi m k ∧ gi m k ≤ 24) :
    rightS B m = (decide (0 < sumTo m m.length) && (decide (sumTo m m.length * B.tlo ≤ tinTo B.lots m false B.lots.length) && decide (tinTo B.lots m true B.lots.length ≤ sumTo m m.length * B.thi))) := by
  rw [rightS_eq]
  unfold lowB highB
  rw [sumTo_four h4]
  congr 1
  have h0 := hb 0
  have h1 := hb 1
  have h2 := hb 2
  have h3 := hb 3
  have e : sumTo m m.length = gi m 0 + gi m 1 + gi m 2 + gi m 3 := by rw [← sumTo_four h4]; simp [sumTo]
  rw [e, Bool.eq_iff_iff]
  simp only [zeroB, Bool.not_eq_true', Bool.and_eq_false_iff, decide_eq_false_iff_not, decide_eq_true_eq]
  omega
theorem within_bd2 {B : ForgeV} (g : B.Good) {l : List Int} (h : withinS B l = true) : l.length ≤ 4 := by
  have := (within_at h).1; have := g.many; omega
end
section
open Go.RowKit Go.Shelf
attribute [local go_sem] Oper.semAt_some
set_option linter.unusedSimpArgs false
set_option linter.unusedVariables false
set_option maxRecDepth 100000 in
set_option maxHeartbeats 4000000 in
theorem refRight_calls (B : ForgeV) (g : B.Good) (A : Option Addr) (c : Nat) (m : List Int) (w : World) (hB : B.Reads w) (hm : IntsAt w A m) (hml : m.length = B.lots.length) (hb : ∀ k, 0 ≤ gi m k ∧ gi m k ≤ 24) :
    Calls Tryd.prog 67 #[B.val, .slice A m.length c] w fun e w' => e = .returned (.bool (rightS B m)) ∧ Below w.heap.size w w' := by
  have hm4 := g.many
  have h4 : m.length ≤ 4 := by omega
  have Hg := Lib.hid g
  have Hb := Lib.hid hb
  have Hml := Lib.hid hml
  have Hr := Lib.hid (right_sum (B := B) h4 hb)
  have Hsum := Lib.hid (fun w h => Sum_calls A c m w h h4 hb)
  have hsn := sumTo_nn hb m.length
  obtain ⟨lb, lo, hlA⟩ := hB.lots.some_ (by omega)
  have hlt := hB.lots
  rw [hlA] at hlt
  have Hlt := Lib.hid hlt
  have Hm := Lib.hid hm
  obtain ⟨ab, ao, rfl, hac⟩ := hm.2.resolve_left (by intro e; rw [e] at hml; simp at hml; omega)
  have Hac := Lib.hid hac
  have k3 := BoxAt.new w B.cells 28
  have H1 : Below w.heap.size w (w.alloc (.cells B.cells 28)) := (Below.refl _ _).alloc (Nat.le_refl _) _
  have hcells : B.val = .agg B.cells := rfl
  rw [hcells]
  unfold ForgeV.cells at k3 H1 ⊢
  rw [hlA] at k3 H1 ⊢
  clear hB hm g hlA hac hlt hml hb
  go_enter Tryd.func67, Tryd.ntmps67
  go_upto_region 1 with fail
  generalize w.alloc _ = W1 at *
  have K3 := Lib.hid k3
  have HW1 := Lib.hid H1
  clear k3 H1
  go_wp2
  go_loopg [7, 5, 6] m.length (fun gq i a b wr => ∃ k : Nat, k ≤ m.length ∧ gq = m.length - k ∧ i = .int .i64 k ∧ a = .int .i64 (tinTo B.lots m false k) ∧ b = .int .i64 (tinTo B.lots m true k) ∧ Below W1.heap.size W1 wr)
  case atStart => exact ⟨0, Nat.zero_le _, rfl, rfl, rfl, rfl, Below.refl _ _⟩
  case round =>
    obtain ⟨k, hk, hgk, rfl, rfl, rfl, hbe⟩ := hrel
    have Hgk := Lib.hid hgk
    have Hbe := Lib.hid hbe
    have HBr := Lib.hid (HW1.out.trans (hbe.mono HW1.out.size))
    clear hgk hbe
    by_cases hlt' : k < m.length
    · have hki : (k : Int) < m.length := by omega
      have hkl : k < B.lots.length := by have := Hml.out; omega
      have hkli : (k : Int) < B.lots.length := by omega
      have hac := cell_below HBr.out (Hac.out k hlt')
      have hbk := Hb.out k
      have hlg := Hg.out.lot k hkl
      have t1 := tinTo_bd Hg.out Hb.out false k (by omega)
      have t2 := tinTo_bd Hg.out Hb.out true k (by omega)
      have s1 : Hid (tinTo B.lots m false (k + 1) = tinTo B.lots m false k + gi m k * (gl B.lots k).lo) := Lib.hid rfl
      have s2 : Hid (tinTo B.lots m true (k + 1) = tinTo B.lots m true k + gi m k * (gl B.lots k).hi) := Lib.hid rfl
      have b0 : 0 ≤ gi m k * (gl B.lots k).lo := Int.mul_nonneg (by omega) (by omega)
      have b1 : gi m k * (gl B.lots k).lo ≤ 24 * 1000 := Int.mul_le_mul (by omega) (by omega) (by omega) (by omega)
      have b2 : 0 ≤ gi m k * (gl B.lots k).hi := Int.mul_nonneg (by omega) (by omega)
      have b3 : gi m k * (gl B.lots k).hi ≤ 24 * 1000 := Int.mul_le_mul (by omega) (by omega) (by omega) (by omega)
      have hw1 : IntKind.i64.wrap (gi m k * (gl B.lots k).lo) = gi m k * (gl B.lots k).lo := wrap_in (by omega) (by omega)
      have hw2 : IntKind.i64.wrap (gi m k * (gl B.lots k).hi) = gi m k * (gl B.lots k).hi := wrap_in (by omega) (by omega)
      have hw3 : IntKind.i64.wrap (tinTo B.lots m false k + gi m k * (gl B.lots k).lo) = tinTo B.lots m false k + gi m k * (gl B.lots k).lo := wrap_in (by omega) (by omega)
      have hw4 : IntKind.i64.wrap (tinTo B.lots m true k + gi m k * (gl B.lots k).hi) = tinTo B.lots m true k + gi m k * (gl B.lots k).hi := wrap_in (by omega) (by omega)
      have hpc := (Hlt.out.below HBr.out).at_ hkl
      obtain ⟨p0, p1, p2⟩ := hpc
      have abl := World.block_lt_of_cell? _ _ hac
      have pbl := World.block_lt_of_cell? _ _ p0
      simp only at abl pbl
      obtain ⟨c3, f3, l3⟩ := K3.out.below Hbe.out
      clear hlg t1 t2 b0 b1 b2 b3
      go_upto_region 5 with (fail)
      refine region_plain (S := fun w' => Below wr.heap.size wr w') 15 (by kernel_rfl) ?_ (fun hHeld => ?_)
      · exact (Below.refl _ _).drew
      first | (refine anyT_take 0 (some 15) (v := ?_) rfl rfl (by kernel_rfl) (by kernel_rfl) (by kernel_rfl) (by kernel_rfl) (fun _ _ _ h => h) (Or.inl ⟨by rfl, ?_⟩) hHeld ?_; rotate_left; focus (intro wq hSw; obtain ⟨hcq, hfq⟩ := bcell hSw; go_simp; (try with_reducible rfl); done))
      (try simp only [Act.put, List.setIfInBounds_toArray, List.set_cons_zero, List.set_cons_succ])
      first | (refine anyT_take 1 (some 16) (v := ?_) rfl rfl (by kernel_rfl) (by kernel_rfl) (by kernel_rfl) (by kernel_rfl) (fun _ _ _ h => h) (Or.inl ⟨by rfl, ?_⟩) hHeld ?_; rotate_left; focus (intro wq hSw; obtain ⟨hcq, hfq⟩ := bcell hSw; go_simp; (try with_reducible rfl); done))
      (try simp only [Act.put, List.setIfInBounds_toArray, List.set_cons_zero, List.set_cons_succ])
      first | (refine anyT_take 2 (some 17) (v := ?_) rfl rfl (by kernel_rfl) (by kernel_rfl) (by kernel_rfl) (by kernel_rfl) (fun _ _ _ h => h) (Or.inl ⟨by rfl, ?_⟩) hHeld ?_; rotate_left; focus (intro wq hSw; obtain ⟨hcq, hfq⟩ := bcell hSw; go_simp; (try with_reducible rfl); done))
      (try simp only [Act.put, List.setIfInBounds_toArray, List.set_cons_zero, List.set_cons_succ])
      first | (refine anyT_take 3 (some 18) (v := ?_) rfl rfl (by kernel_rfl) (by kernel_rfl) (by kernel_rfl) (by kernel_rfl) (fun _ _ _ h => h) (Or.inl ⟨by rfl, ?_⟩) hHeld ?_; rotate_left; focus (intro wq hSw; obtain ⟨hcq, hfq⟩ := bcell hSw; go_simp; (try with_reducible rfl); done))
      (try simp only [Act.put, List.setIfInBounds_toArray, List.set_cons_zero, List.set_cons_succ])
      first | (refine anyT_take 4 (some 19) (v := ?_) rfl rfl (by kernel_rfl) (by kernel_rfl) (by kernel_rfl) (by kernel_rfl) (fun _ _ _ h => h) (Or.inl ⟨by rfl, ?_⟩) hHeld ?_; rotate_left; focus (intro wq hSw; obtain ⟨hcq, hfq⟩ := bcell hSw; go_simp; (try with_reducible rfl); done))
      (try simp only [Act.put, List.setIfInBounds_toArray, List.set_cons_zero, List.set_cons_succ])
      first | (refine anyT_take 5 (some 20) (v := ?_) rfl rfl (by kernel_rfl) (by kernel_rfl) (by kernel_rfl) (by kernel_rfl) (fun _ _ _ h => h) (Or.inl ⟨by rfl, ?_⟩) hHeld ?_; rotate_left; focus (intro wq hSw; obtain ⟨hcq, hfq⟩ := bcell hSw; go_simp; (try with_reducible rfl); done))
      (try simp only [Act.put, List.setIfInBounds_toArray, List.set_cons_zero, List.set_cons_succ])
      first | (refine anyT_take 6 (some 21) (v := ?_) rfl rfl (by kernel_rfl) (by kernel_rfl) (by kernel_rfl) (by kernel_rfl) (fun _ _ _ h => h) (Or.inl ⟨by rfl, ?_⟩) hHeld ?_; rotate_left; focus (intro wq hSw; obtain ⟨hcq, hfq⟩ := bcell hSw; go_simp; (try with_reducible rfl); done))
      (try simp only [Act.put, List.setIfInBounds_toArray, List.set_cons_zero, List.set_cons_succ])
      first | (refine anyT_take 7 (some 22) (v := ?_) rfl rfl (by kernel_rfl) (by kernel_rfl) (by kernel_rfl) (by kernel_rfl) (fun _ _ _ h => h) (Or.inl ⟨by rfl, ?_⟩) hHeld ?_; rotate_left; focus (intro wq hSw; obtain ⟨hcq, hfq⟩ := bcell hSw; go_simp; (try with_reducible rfl); done))
      (try simp only [Act.put, List.setIfInBounds_toArray, List.set_cons_zero, List.set_cons_succ])
      first | (refine anyT_take 8 (some 23) (v := ?_) rfl rfl (by kernel_rfl) (by kernel_rfl) (by kernel_rfl) (by kernel_rfl) (fun _ _ _ h => h) (Or.inl ⟨by rfl, ?_⟩) hHeld ?_; rotate_left; focus (intro wq hSw; obtain ⟨hcq, hfq⟩ := bcell hSw; go_simp; (try with_reducible rfl); done))
      (try simp only [Act.put, List.setIfInBounds_toArray, List.set_cons_zero, List.set_cons_succ])
      first | (refine anyT_take 9 (some 24) (v := ?_) rfl rfl (by kernel_rfl) (by kernel_rfl) (by kernel_rfl) (by kernel_rfl) (fun _ _ _ h => h) (Or.inl ⟨by rfl, ?_⟩) hHeld ?_; rotate_left; focus (intro wq hSw; obtain ⟨hcq, hfq⟩ := bcell hSw; go_simp; (try with_reducible rfl); done))
      (try simp only [Act.put, List.setIfInBounds_toArray, List.set_cons_zero, List.set_cons_succ])
      first | (refine anyT_take 10 (some 25) (v := ?_) rfl rfl (by kernel_rfl) (by kernel_rfl) (by kernel_rfl) (by kernel_rfl) (fun _ _ _ h => h) (Or.inl ⟨by rfl, ?_⟩) hHeld ?_; rotate_left; focus (intro wq hSw; obtain ⟨hcq, hfq⟩ := bcell hSw; go_simp; (try with_reducible rfl); done))
      (try simp only [Act.put, List.setIfInBounds_toArray, List.set_cons_zero, List.set_cons_succ])
      first | (refine anyT_take 11 (some 26) (v := ?_) rfl rfl (by kernel_rfl) (by kernel_rfl) (by kernel_rfl) (by kernel_rfl) (fun _ _ _ h => h) (Or.inl ⟨by rfl, ?_⟩) hHeld ?_; rotate_left; focus (intro wq hSw; obtain ⟨hcq, hfq⟩ := bcell hSw; go_simp; (try with_reducible rfl); done))
      (try simp only [Act.put, List.setIfInBounds_toArray, List.set_cons_zero, List.set_cons_succ])
      first | (refine anyT_take 12 (some 27) (v := ?_) rfl rfl (by kernel_rfl) (by kernel_rfl) (by kernel_rfl) (by kernel_rfl) (fun _ _ _ h => h) (Or.inl ⟨by rfl, ?_⟩) hHeld ?_; rotate_left; focus (intro wq hSw; obtain ⟨hcq, hfq⟩ := bcell hSw; go_simp; (try with_reducible rfl); done))
      (try simp only [Act.put, List.setIfInBounds_toArray, List.set_cons_zero, List.set_cons_succ])
      first | (refine anyT_take 13 (some 28) (v := ?_) rfl rfl (by kernel_rfl) (by kernel_rfl) (by kernel_rfl) (by kernel_rfl) (fun _ _ _ h => h) (Or.inl ⟨by rfl, ?_⟩) hHeld ?_; rotate_left; focus (intro wq hSw; obtain ⟨hcq, hfq⟩ := bcell hSw; go_simp; (try with_reducible rfl); done))
      (try simp only [Act.put, List.setIfInBounds_toArray, List.set_cons_zero, List.set_cons_succ])
      first | (refine anyT_take 14 (some 5) (v := ?_) rfl rfl (by kernel_rfl) (by kernel_rfl) (by kernel_rfl) (by kernel_rfl) (fun _ _ _ h => h) (Or.inl ⟨by rfl, ?_⟩) hHeld ?_; rotate_left; focus (intro wq hSw; obtain ⟨hcq, hfq⟩ := bcell hSw; go_simp; (try with_reducible rfl); done))
      (try simp only [Act.put, List.setIfInBounds_toArray, List.set_cons_zero, List.set_cons_succ])
      refine anyT_done (by kernel_rfl) ?_ _
      have hh1 := hHeld
      replace hac := cell_below hh1 hac
      replace p0 := cell_below hh1 p0
      replace p1 := cell_below hh1 p1
      replace p2 := cell_below hh1 p2
      have hbd := Hbe.out.trans (hh1.mono Hbe.out.size)
      clear c3 f3 l3 hHeld hh1 abl pbl
      generalize World.drew wr = ws at *
      have abl := World.block_lt_of_cell? _ _ hac
      have pbl := World.block_lt_of_cell? _ _ p0
      simp only at abl pbl
      obtain ⟨c3, f3, l3⟩ := K3.out.below hbd
      go_upto_region 6 with (fail)
      refine region_plain (S := fun w' => Below ws.heap.size ws w') 15 (by kernel_rfl) ?_ (fun hHeld => ?_)
      · exact (Below.refl _ _).drew
      first | (refine anyT_take 0 (some 29) (v := ?_) rfl rfl (by kernel_rfl) (by kernel_rfl) (by kernel_rfl) (by kernel_rfl) (fun _ _ _ h => h) (Or.inl ⟨by rfl, ?_⟩) hHeld ?_; rotate_left; focus (intro wq hSw; obtain ⟨hcq, hfq⟩ := bcell hSw; go_simp; (try with_reducible rfl); done))
      (try simp only [Act.put, List.setIfInBounds_toArray, List.set_cons_zero, List.set_cons_succ])
      first | (refine anyT_take 1 (some 30) (v := ?_) rfl rfl (by kernel_rfl) (by kernel_rfl) (by kernel_rfl) (by kernel_rfl) (fun _ _ _ h => h) (Or.inl ⟨by rfl, ?_⟩) hHeld ?_; rotate_left; focus (intro wq hSw; obtain ⟨hcq, hfq⟩ := bcell hSw; go_simp; (try with_reducible rfl); done))
      (try simp only [Act.put, List.setIfInBounds_toArray, List.set_cons_zero, List.set_cons_succ])
      first | (refine anyT_take 2 (some 31) (v := ?_) rfl rfl (by kernel_rfl) (by kernel_rfl) (by kernel_rfl) (by kernel_rfl) (fun _ _ _ h => h) (Or.inl ⟨by rfl, ?_⟩) hHeld ?_; rotate_left; focus (intro wq hSw; obtain ⟨hcq, hfq⟩ := bcell hSw; go_simp; (try with_reducible rfl); done))
      (try simp only [Act.put, List.setIfInBounds_toArray, List.set_cons_zero, List.set_cons_succ])
      first | (refine anyT_take 3 (some 32) (v := ?_) rfl rfl (by kernel_rfl) (by kernel_rfl) (by kernel_rfl) (by kernel_rfl) (fun _ _ _ h => h) (Or.inl ⟨by rfl, ?_⟩) hHeld ?_; rotate_left; focus (intro wq hSw; obtain ⟨hcq, hfq⟩ := bcell hSw; go_simp; (try with_reducible rfl); done))
      (try simp only [Act.put, List.setIfInBounds_toArray, List.set_cons_zero, List.set_cons_succ])
      first | (refine anyT_take 4 (some 33) (v := ?_) rfl rfl (by kernel_rfl) (by kernel_rfl) (by kernel_rfl) (by kernel_rfl) (fun _ _ _ h => h) (Or.inl ⟨by rfl, ?_⟩) hHeld ?_; rotate_left; focus (intro wq hSw; obtain ⟨hcq, hfq⟩ := bcell hSw; go_simp; (try with_reducible rfl); done))
      (try simp only [Act.put, List.setIfInBounds_toArray, List.set_cons_zero, List.set_cons_succ])
      first | (refine anyT_take 5 (some 34) (v := ?_) rfl rfl (by kernel_rfl) (by kernel_rfl) (by kernel_rfl) (by kernel_rfl) (fun _ _ _ h => h) (Or.inl ⟨by rfl, ?_⟩) hHeld ?_; rotate_left; focus (intro wq hSw; obtain ⟨hcq, hfq⟩ := bcell hSw; go_simp; (try with_reducible rfl); done))
      (try simp only [Act.put, List.setIfInBounds_toArray, List.set_cons_zero, List.set_cons_succ])
      first | (refine anyT_take 6 (some 35) (v := ?_) rfl rfl (by kernel_rfl) (by kernel_rfl) (by kernel_rfl) (by kernel_rfl) (fun _ _ _ h => h) (Or.inl ⟨by rfl, ?_⟩) hHeld ?_; rotate_left; focus (intro wq hSw; obtain ⟨hcq, hfq⟩ := bcell hSw; go_simp; (try with_reducible rfl); done))
      (try simp only [Act.put, List.setIfInBounds_toArray, List.set_cons_zero, List.set_cons_succ])
      first | (refine anyT_take 7 (some 36) (v := ?_) rfl rfl (by kernel_rfl) (by kernel_rfl) (by kernel_rfl) (by kernel_rfl) (fun _ _ _ h => h) (Or.inl ⟨by rfl, ?_⟩) hHeld ?_; rotate_left; focus (intro wq hSw; obtain ⟨hcq, hfq⟩ := bcell hSw; go_simp; (try with_reducible rfl); done))
      (try simp only [Act.put, List.setIfInBounds_toArray, List.set_cons_zero, List.set_cons_succ])
      first | (refine anyT_take 8 (some 37) (v := ?_) rfl rfl (by kernel_rfl) (by kernel_rfl) (by kernel_rfl) (by kernel_rfl) (fun _ _ _ h => h) (Or.inl ⟨by rfl, ?_⟩) hHeld ?_; rotate_left; focus (intro wq hSw; obtain ⟨hcq, hfq⟩ := bcell hSw; go_simp; (try with_reducible rfl); done))
      (try simp only [Act.put, List.setIfInBounds_toArray, List.set_cons_zero, List.set_cons_succ])
      first | (refine anyT_take 9 (some 38) (v := ?_) rfl rfl (by kernel_rfl) (by kernel_rfl) (by kernel_rfl) (by kernel_rfl) (fun _ _ _ h => h) (Or.inl ⟨by rfl, ?_⟩) hHeld ?_; rotate_left; focus (intro wq hSw; obtain ⟨hcq, hfq⟩ := bcell hSw; go_simp; (try with_reducible rfl); done))
      (try simp only [Act.put, List.setIfInBounds_toArray, List.set_cons_zero, List.set_cons_succ])
      first | (refine anyT_take 10 (some 39) (v := ?_) rfl rfl (by kernel_rfl) (by kernel_rfl) (by kernel_rfl) (by kernel_rfl) (fun _ _ _ h => h) (Or.inl ⟨by rfl, ?_⟩) hHeld ?_; rotate_left; focus (intro wq hSw; obtain ⟨hcq, hfq⟩ := bcell hSw; go_simp; (try with_reducible rfl); done))
      (try simp only [Act.put, List.setIfInBounds_toArray, List.set_cons_zero, List.set_cons_succ])
      first | (refine anyT_take 11 (some 40) (v := ?_) rfl rfl (by kernel_rfl) (by kernel_rfl) (by kernel_rfl) (by kernel_rfl) (fun _ _ _ h => h) (Or.inl ⟨by rfl, ?_⟩) hHeld ?_; rotate_left; focus (intro wq hSw; obtain ⟨hcq, hfq⟩ := bcell hSw; go_simp; (try with_reducible rfl); done))
      (try simp only [Act.put, List.setIfInBounds_toArray, List.set_cons_zero, List.set_cons_succ])
      first | (refine anyT_take 12 (some 41) (v := ?_) rfl rfl (by kernel_rfl) (by kernel_rfl) (by kernel_rfl) (by kernel_rfl) (fun _ _ _ h => h) (Or.inl ⟨by rfl, ?_⟩) hHeld ?_; rotate_left; focus (intro wq hSw; obtain ⟨hcq, hfq⟩ := bcell hSw; go_simp; (try with_reducible rfl); done))
      (try simp only [Act.put, List.setIfInBounds_toArray, List.set_cons_zero, List.set_cons_succ])
      first | (refine anyT_take 13 (some 42) (v := ?_) rfl rfl (by kernel_rfl) (by kernel_rfl) (by kernel_rfl) (by kernel_rfl) (fun _ _ _ h => h) (Or.inl ⟨by rfl, ?_⟩) hHeld ?_; rotate_left; focus (intro wq hSw; obtain ⟨hcq, hfq⟩ := bcell hSw; go_simp; (try with_reducible rfl); done))
      (try simp only [Act.put, List.setIfInBounds_toArray, List.set_cons_zero, List.set_cons_succ])
      first | (refine anyT_take 14 (some 6) (v := ?_) rfl rfl (by kernel_rfl) (by kernel_rfl) (by kernel_rfl) (by kernel_rfl) (fun _ _ _ h => h) (Or.inl ⟨by rfl, ?_⟩) hHeld ?_; rotate_left; focus (intro wq hSw; obtain ⟨hcq, hfq⟩ := bcell hSw; go_simp; (try with_reducible rfl); done))
      (try simp only [Act.put, List.setIfInBounds_toArray, List.set_cons_zero, List.set_cons_succ])
      refine anyT_done (by kernel_rfl) ?_ _
      have Hfin := Lib.hid (hbd.trans (hHeld.mono hbd.size))
      clear hHeld c3 f3 l3 abl pbl hac p0 p1 p2
      go_wp2
      go_roundg (m.length - (k + 1))
      case measure => have := Hgk.out; omega
      case rel => exact ⟨k + 1, by omega, rfl, by go_num, by rw [s1.out], by rw [s2.out], Hfin.out⟩
    · obtain rfl : k = m.length := by omega
      have hki : ¬ (m.length : Int) < m.length := by omega
      obtain ⟨c3, f3, l3⟩ := K3.out.below Hbe.out
      have hr := Hr.out
      have htn := Hg.out.tin
      rw [← Hml.out] at hr
      have Hr2 := Lib.hid hr
      clear hr Hr
      generalize tinTo B.lots m false m.length = T1 at *
      generalize tinTo B.lots m true m.length = T2 at *
      generalize hsg : sumTo m m.length = s at *
      have q0 : 0 ≤ s * B.tlo := Int.mul_nonneg (by omega) (by omega)
      have q1 : s * B.tlo ≤ 96 * 1000 := Int.mul_le_mul (by omega) (by omega) (by omega) (by omega)
      have q2 : 0 ≤ s * B.thi := Int.mul_nonneg (by omega) (by omega)
      have q3 : s * B.thi ≤ 96 * 1000 := Int.mul_le_mul (by omega) (by omega) (by omega) (by omega)
      have hw1 : IntKind.i64.wrap (s * B.tlo) = s * B.tlo := wrap_in (by omega) (by omega)
      have hw2 : IntKind.i64.wrap (s * B.thi) = s * B.thi := wrap_in (by omega) (by omega)
      clear q0 q1 q2 q3 hsg hsn htn
      by_cases d1 : 0 < s
      · by_cases d2 : s * B.tlo ≤ T1
        · by_cases d3 : T2 ≤ s * B.thi
          · have Hv : Hid (rightS B m = true) := by unfold Hid; rw [Hr2.out]; simp [d1, d2, d3]
            go_wp2_with (go_at_call 47; refine (Hsum.out _ (Hm.out.below HBr.out)).mono ?_; rintro e w' ⟨rfl, rfl⟩)
            go_ret
            exact ⟨by rw [Hv.out]; first | rfl | (show Ending.returned (Value.bool (decide (T2 ≤ s * B.thi))) = _; rw [decide_eq_false (by omega)]), HBr.out⟩
          · have Hv : Hid (rightS B m = false) := by unfold Hid; rw [Hr2.out]; simp [d1, d2, d3]
            go_wp2_with (go_at_call 47; refine (Hsum.out _ (Hm.out.below HBr.out)).mono ?_; rintro e w' ⟨rfl, rfl⟩)
            go_ret
            exact ⟨by rw [Hv.out]; first | rfl | (show Ending.returned (Value.bool (decide (T2 ≤ s * B.thi))) = _; rw [decide_eq_false (by omega)]), HBr.out⟩
        · have Hv : Hid (rightS B m = false) := by unfold Hid; rw [Hr2.out]; simp [d1, d2]
          go_wp2_with (go_at_call 47; refine (Hsum.out _ (Hm.out.below HBr.out)).mono ?_; rintro e w' ⟨rfl, rfl⟩)
          go_ret
          exact ⟨by rw [Hv.out]; first | rfl | (show Ending.returned (Value.bool (decide (T2 ≤ s * B.thi))) = _; rw [decide_eq_false (by omega)]), HBr.out⟩
      · have Hv : Hid (rightS B m = false) := by unfold Hid; rw [Hr2.out]; simp [d1]
        go_wp2_with (go_at_call 47; refine (Hsum.out _ (Hm.out.below HBr.out)).mono ?_; rintro e w' ⟨rfl, rfl⟩)
        go_ret
        exact ⟨by rw [Hv.out]; first | rfl | (show Ending.returned (Value.bool (decide (T2 ≤ s * B.thi))) = _; rw [decide_eq_false (by omega)]), HBr.out⟩
set_option maxRecDepth 100000 in
set_option maxHeartbeats 4000000 in
theorem refStock_calls (B : ForgeV) (g : B.Good) (w : World) (hB : B.Reads w) :
    Calls Tryd.prog 75 #[B.val] w fun e w' => (∃ A c, e = .returned (.slice A B.lots.length c) ∧ IntsAt w' A (stockS B) ∧ B.lots.length ≤ c) ∧ Below w.heap.size w w' := by
  have Hg := Lib.hid g
  have hm4 := g.many
  obtain ⟨lb, lo, hlA⟩ := hB.lots.some_ (by omega)
  have hlt := hB.lots
  rw [hlA] at hlt
  have Hlt := Lib.hid hlt
  have k2 := BoxAt.new w B.cells 28
  have H1 : Below w.heap.size w (w.alloc (.cells B.cells 28)) := (Below.refl _ _).alloc (Nat.le_refl _) _
  have hcells : B.val = .agg B.cells := rfl
  rw [hcells]
  unfold ForgeV.cells at k2 H1 ⊢
  rw [hlA] at k2 H1 ⊢
  clear hB g hlA hlt
  go_enter Tryd.func75, Tryd.ntmps75
  go_upto_region 1 with fail
  generalize w.alloc _ = W1 at *
  have K2 := Lib.hid k2
  have HW1 := Lib.hid H1
  clear k2 H1
  go_wp2
  go_loopg [4, 3] B.lots.length (fun gq i v wr => ∃ k : Nat, k ≤ B.lots.length ∧ gq = B.lots.length - k ∧ i = .int .i64 k ∧ OwnInts wr W1.heap.size v ((stockS B).take k) ∧ Below W1.heap.size W1 wr)
  case atStart => exact ⟨0, Nat.zero_le _, rfl, rfl, OwnInts.nil _ _, Below.refl _ _⟩
  case round =>
    obtain ⟨k, hk, hgk, rfl, hown, hbe⟩ := hrel
    have Hgk := Lib.hid hgk
    have Hown := Lib.hid hown
    have Hbe := Lib.hid hbe
    have HBr := Lib.hid (HW1.out.trans (hbe.mono HW1.out.size))
    obtain ⟨c2, f2, l2⟩ := K2.out.below hbe
    clear hgk hown hbe
    by_cases hlt' : k < B.lots.length
    · have hki : (k : Int) < B.lots.length := by omega
      have Hs : Hid ((stockS B).take (k + 1) = (stockS B).take k ++ [(gl B.lots k).bars]) := by
        unfold Hid
        rw [List.take_add_one, ← gi_stock B k hlt', gi, List.getD_eq_getElem?_getD, List.getElem?_eq_getElem (by simpa [stockS] using hlt')]
        rfl
      have p0 := ((Hlt.out.below HBr.out).at_ hlt').1
      have pbl := World.block_lt_of_cell? _ _ p0
      simp only at pbl
      go_wp2_with (at_builtin; refine wpList_app1 _ rfl _ _ rfl W1.heap.size _ _ rfl (Hown.out.alloc _) _ _ _ rfl (cell_new1 _ _ _) (by rw [List.length_take]; omega) (by have := Hbe.out.size; simp; omega) ?_)
      intro v' w5 ho hb5 hsz _
      have Hho := Lib.hid ho
      have Hb5 := Lib.hid hb5
      clear ho hb5 hsz
      go_wp2
      go_roundg (B.lots.length - (k + 1))
      case measure => have := Hgk.out; omega
      case rel => exact ⟨k + 1, by omega, rfl, by go_num, by rw [Hs.out]; exact Hho.out, (Hbe.out.alloc Hbe.out.size _).trans Hb5.out⟩
    · obtain rfl : k = B.lots.length := by omega
      obtain ⟨A', c', rfl, hi', hc', hm', h0⟩ := Hown.out.reads
      have hsl : (stockS B).length = B.lots.length := by simp [stockS]
      have htk : (stockS B).take B.lots.length = stockS B := by rw [← hsl, List.take_length]
      rw [htk] at hi' ⊢
      have Hi' := Lib.hid hi'
      have Hsl := Lib.hid hsl
      have Hc' := Lib.hid (show B.lots.length ≤ c' by rw [List.length_take] at hc'; omega)
      clear hi' htk hc' hsl
      go_wp2
      go_ret
      exact ⟨⟨A', c', by rw [Hsl.out] <;> rfl, Hi'.out, Hc'.out⟩, HBr.out⟩
set_option maxRecDepth 100000 in
set_option maxHeartbeats 4000000 in
theorem refIsMelt_calls (B : ForgeV) (A : Option Addr) (c : Nat) (l : List Int) (w : World) (hB : B.Reads w) (hp : IntsAt w A l) :
    Calls Tryd.prog 19 #[B.val, .slice A l.length c] w fun e w' => e = .returned (isMeltR B l) ∧ Below w.heap.size w w' := by
  have HB0 := Lib.hid hB
  have Hp0 := Lib.hid hp
  have hr : isMeltR B l = bif goodF B then .tuple #[.bool (withinS B l && rightS B l), .int .i64 0] else .tuple #[.bool false, .int .i64 20] := rfl
  have Hr := Lib.hid hr
  have k2 := BoxAt.new w B.cells 28
  have H1 : Below w.heap.size w (w.alloc (.cells B.cells 28)) := (Below.refl _ _).alloc (Nat.le_refl _) _
  have hcells : B.val = .agg B.cells := rfl
  rw [hcells]
  unfold ForgeV.cells at k2 H1 ⊢
  clear hB hp hr
  go_enter Tryd.func19, Tryd.ntmps19
  go_upto_region 1 with fail
  generalize w.alloc _ = W1 at *
  have K2 := Lib.hid k2
  have HW1 := Lib.hid H1
  obtain ⟨c2, f2, l2⟩ := k2
  clear H1
  go_wp2_with fail
  refine (eq0_1 (v' := B.val) (by unfold ForgeV.val ForgeV.cells; rfl) (refCheck_calls B _ (HB0.out.below HW1.out))).mono ?_
  rintro e w2 ⟨rfl, hb⟩
  replace HW1 := Lib.hid (below_then HW1.out HW1.out.size hb)
  replace K2 := Lib.hid (K2.out.below hb)
  clear hb c2 f2 l2
  cases hg : goodF B with
  | false =>
    have Hf : Hid (isMeltR B l = .tuple #[.bool false, .int .i64 20]) := by unfold Hid; rw [Hr.out, hg]; rfl
    clear hg
    go_wp2
    go_ret2
    exact ⟨by rw [Hf.out] <;> rfl, HW1.out⟩
  | true =>
    have Hg := Lib.hid ((goodF_iff B).1 hg)
    have Hf : Hid (isMeltR B l = .tuple #[.bool (withinS B l && rightS B l), .int .i64 0]) := by unfold Hid; rw [Hr.out, hg]; rfl
    have hm4 := Hg.out.many
    obtain ⟨lb, lo, hlA⟩ := HB0.out.lots.some_ (by omega)
    have hlt := HB0.out.lots
    rw [hlA] at hlt
    have Hlt := Lib.hid hlt
    have HlA := Lib.hid hlA
    have k2 := K2.out
    rw [hlA] at k2
    replace K2 := Lib.hid k2
    clear hg Hr hlA hlt k2
    obtain ⟨c2, f2, l2⟩ := K2.out
    by_cases hle : l.length = B.lots.length
    · have hli : ((l.length : Int) == B.lots.length) = true := by simp [hle]
      have Hle := Lib.hid hle
      obtain ⟨ab, ao, rfl, hac⟩ := Hp0.out.2.resolve_left (by intro e; rw [e] at hle; simp at hle; omega)
      have Hac := Lib.hid hac
      clear hac hle
      have hmon : ∀ k, k ≤ l.length → inTo B l k = false → withinS B l = false := fun k hk h => by
        have h2 : inTo B l l.length = false := all_false hk h
        unfold withinS; rw [← Hle.out, h2, Bool.and_false]
      have Hmon := Lib.hid hmon
      clear hmon
      go_upto_block 0 with (fail)
      clear c2 f2 l2 hli
      go_wp2
      go_loopg [8, 7] l.length (fun gq i s wr => ∃ k : Nat, k ≤ l.length ∧ gq = l.length - k ∧ i = .int .i64 k ∧ s = .bool (inTo B l k) ∧ Below w2.heap.size w2 wr)
      case atStart => exact ⟨0, Nat.zero_le _, rfl, rfl, rfl, Below.refl _ _⟩
      case round =>
        obtain ⟨k, hk, hgk, rfl, rfl, hbe⟩ := hrel
        have Hgk := Lib.hid hgk
        have Hbe := Lib.hid hbe
        have HBr := Lib.hid (below_then HW1.out HW1.out.size hbe)
        obtain ⟨c2, f2, l2⟩ := K2.out.below hbe
        have Hs := Lib.hid (inTo_succ B l k)
        clear hgk hbe
        cases hx : inTo B l k with
        | false =>
          have Hw := Lib.hid (Hmon.out k hk hx)
          clear hx
          go_wp2
          go_ret2
          exact ⟨by rw [Hf.out, Hw.out]; rfl, HBr.out⟩
        | true =>
          have Hx := Lib.hid hx
          clear hx
          by_cases hlt' : k < l.length
          · have hki : (k : Int) < l.length := by omega
            have hkl : k < B.lots.length := by have := Hle.out; omega
            have hkli : (k : Int) < B.lots.length := by omega
            have hac := cell_below HBr.out (Hac.out k hlt')
            have p0 := ((Hlt.out.below HBr.out).at_ hkl).1
            have abl := World.block_lt_of_cell? _ _ hac
            have pbl := World.block_lt_of_cell? _ _ p0
            simp only at abl pbl
            go_upto_region 8 with (fail)
            refine region_plain (S := fun w' => Below wr.heap.size wr w') 12 (by kernel_rfl) ?_ (fun hHeld => ?_)
            · exact (Below.refl _ _).drew
            first | (refine anyT_take 0 (some 29) (v := ?_) rfl rfl (by kernel_rfl) (by kernel_rfl) (by kernel_rfl) (by kernel_rfl) (fun _ _ _ h => h) (Or.inl ⟨by rfl, ?_⟩) hHeld ?_; rotate_left; focus (intro wq hSw; obtain ⟨hcq, hfq⟩ := bcell hSw; go_simp; (try with_reducible rfl); done))
            (try simp only [Act.put, List.setIfInBounds_toArray, List.set_cons_zero, List.set_cons_succ])
            first | (refine anyT_take 1 (some 30) (v := ?_) rfl rfl (by kernel_rfl) (by kernel_rfl) (by kernel_rfl) (by kernel_rfl) (fun _ _ _ h => h) (Or.inl ⟨by rfl, ?_⟩) hHeld ?_; rotate_left; focus (intro wq hSw; obtain ⟨hcq, hfq⟩ := bcell hSw; go_simp; (try with_reducible rfl); done))
            (try simp only [Act.put, List.setIfInBounds_toArray, List.set_cons_zero, List.set_cons_succ])
            first | (refine anyT_take 2 (some 31) (v := ?_) rfl rfl (by kernel_rfl) (by kernel_rfl) (by kernel_rfl) (by kernel_rfl) (fun _ _ _ h => h) (Or.inl ⟨by rfl, ?_⟩) hHeld ?_; rotate_left; focus (intro wq hSw; obtain ⟨hcq, hfq⟩ := bcell hSw; go_simp; (try with_reducible rfl); done))
            (try simp only [Act.put, List.setIfInBounds_toArray, List.set_cons_zero, List.set_cons_succ])
            first | (refine anyT_take 3 (some 32) (v := ?_) rfl rfl (by kernel_rfl) (by kernel_rfl) (by kernel_rfl) (by kernel_rfl) (fun _ _ _ h => h) (Or.inl ⟨by rfl, ?_⟩) hHeld ?_; rotate_left; focus (intro wq hSw; obtain ⟨hcq, hfq⟩ := bcell hSw; go_simp; (try with_reducible rfl); done))
            (try simp only [Act.put, List.setIfInBounds_toArray, List.set_cons_zero, List.set_cons_succ])
            first | (refine anyT_take 4 (some 33) (v := ?_) rfl rfl (by kernel_rfl) (by kernel_rfl) (by kernel_rfl) (by kernel_rfl) (fun _ _ _ h => h) (Or.inl ⟨by rfl, ?_⟩) hHeld ?_; rotate_left; focus (intro wq hSw; obtain ⟨hcq, hfq⟩ := bcell hSw; go_simp; (try with_reducible rfl); done))
            (try simp only [Act.put, List.setIfInBounds_toArray, List.set_cons_zero, List.set_cons_succ])
            first | (refine anyT_take 5 (some 34) (v := ?_) rfl rfl (by kernel_rfl) (by kernel_rfl) (by kernel_rfl) (by kernel_rfl) (fun _ _ _ h => h) (Or.inl ⟨by rfl, ?_⟩) hHeld ?_; rotate_left; focus (intro wq hSw; obtain ⟨hcq, hfq⟩ := bcell hSw; go_simp; (try with_reducible rfl); done))
            (try simp only [Act.put, List.setIfInBounds_toArray, List.set_cons_zero, List.set_cons_succ])
            first | (refine anyT_take 6 (some 35) (v := ?_) rfl rfl (by kernel_rfl) (by kernel_rfl) (by kernel_rfl) (by kernel_rfl) (fun _ _ _ h => h) (Or.inl ⟨by rfl, ?_⟩) hHeld ?_; rotate_left; focus (intro wq hSw; obtain ⟨hcq, hfq⟩ := bcell hSw; go_simp; (try with_reducible rfl); done))
            (try simp only [Act.put, List.setIfInBounds_toArray, List.set_cons_zero, List.set_cons_succ])
            first | (refine anyT_take 7 (some 36) (v := ?_) rfl rfl (by kernel_rfl) (by kernel_rfl) (by kernel_rfl) (by kernel_rfl) (fun _ _ _ h => h) (Or.inl ⟨by rfl, ?_⟩) hHeld ?_; rotate_left; focus (intro wq hSw; obtain ⟨hcq, hfq⟩ := bcell hSw; go_simp; (try with_reducible rfl); done))
            (try simp only [Act.put, List.setIfInBounds_toArray, List.set_cons_zero, List.set_cons_succ])
            first | (refine anyT_take 8 (some 37) (v := ?_) rfl rfl (by kernel_rfl) (by kernel_rfl) (by kernel_rfl) (by kernel_rfl) (fun _ _ _ h => h) (Or.inl ⟨by rfl, ?_⟩) hHeld ?_; rotate_left; focus (intro wq hSw; obtain ⟨hcq, hfq⟩ := bcell hSw; go_simp; (try with_reducible rfl); done))
            (try simp only [Act.put, List.setIfInBounds_toArray, List.set_cons_zero, List.set_cons_succ])
            first | (refine anyT_take 9 (some 38) (v := ?_) rfl rfl (by kernel_rfl) (by kernel_rfl) (by kernel_rfl) (by kernel_rfl) (fun _ _ _ h => h) (Or.inl ⟨by rfl, ?_⟩) hHeld ?_; rotate_left; focus (intro wq hSw; obtain ⟨hcq, hfq⟩ := bcell hSw; go_simp; (try with_reducible rfl); done))
            (try simp only [Act.put, List.setIfInBounds_toArray, List.set_cons_zero, List.set_cons_succ])
            refine anyT_one 10 (by kernel_rfl) rfl (fun K hK => ?_)
            go_simp
            refine (Sits_calls _ _ _ _).mono ?_; rintro e x1 ⟨rfl, rfl⟩
            refine hK.out _ _ ?_ (fun hHeld => ?_)
            · exact hHeld
            clear hK K
            (try simp only [Act.put, List.setIfInBounds_toArray, List.set_cons_zero, List.set_cons_succ])
            first | (refine anyT_take 11 (some 7) (v := ?_) rfl rfl (by kernel_rfl) (by kernel_rfl) (by kernel_rfl) (by kernel_rfl) (fun _ _ _ h => h) (Or.inl ⟨by rfl, ?_⟩) hHeld ?_; rotate_left; focus (intro wq hSw; obtain ⟨hcq, hfq⟩ := bcell hSw; go_simp; (try with_reducible rfl); done))
            (try simp only [Act.put, List.setIfInBounds_toArray, List.set_cons_zero, List.set_cons_succ])
            refine anyT_done (by kernel_rfl) ?_ _
            have Hfin := Lib.hid (below_then Hbe.out Hbe.out.size hHeld)
            clear hHeld c2 f2 l2 abl pbl hac p0
            go_wp2
            go_roundg (l.length - (k + 1))
            case measure => have := Hgk.out; omega
            case rel => exact ⟨k + 1, by omega, rfl, by go_num, by rw [Hs.out, Hx.out]; rfl, Hfin.out⟩
          · obtain rfl : k = l.length := by omega
            have hki : ¬ (l.length : Int) < l.length := by omega
            have hwi : withinS B l = true := by unfold withinS; rw [← Hle.out, Hx.out]; simp
            have Hwi := Lib.hid hwi
            clear hwi
            go_wp2_with fail
            refine (eq0_2 (v' := B.val) (by unfold ForgeV.val ForgeV.cells; rw [HlA.out]) (refRight_calls B Hg.out _ c l _ (HB0.out.below HBr.out) (Hp0.out.below HBr.out) Hle.out (within_bd Hg.out Hwi.out))).mono ?_
            rintro e w5 ⟨rfl, hb⟩
            have hfin := below_then HBr.out HBr.out.size hb
            clear hb c2 f2 l2
            go_wp2
            go_ret2
            exact ⟨by rw [Hf.out, Hwi.out]; rfl, hfin⟩
    · have hli : ((l.length : Int) == B.lots.length) = false := by rw [beq_eq_false_iff_ne]; omega
      have Hw : Hid (withinS B l = false) := by unfold Hid withinS; simp [hle]
      clear hle
      go_upto_block 0 with (fail)
      clear c2 f2 l2 hli
      obtain ⟨c2, f2, l2⟩ := K2.out
      go_wp2
      refine wp_loop_rounds 1 ?_
      rw [rounds_succ]
      go_wp2
      go_ret2
      exact ⟨by rw [Hf.out, Hw.out]; rfl, HW1.out⟩
end
end Go.Proofs.YtgfbfbfajnfbjaaDoor
