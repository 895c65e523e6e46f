/- PROVED: ForgeTin (the walk): the law returns true, whatever the book and the numbers. -/
import Derived.Test.YtgfbfbfajnfbjaaDoorCE
namespace Go.Proofs.YtgfbfbfajnfbjaaDoor
section
open Go.RowKit Go.Shelf
attribute [local go_sem] Oper.semAt_some
set_option linter.unusedSimpArgs false
set_option linter.unusedVariables false
set_option maxRecDepth 100000 in
set_option maxHeartbeats 8000000 in
theorem ForgeTin_calls (B : ForgeV) (many : Int) (A' : Option Addr) (c' : Nat) (bits : List Int) (w : World) (hB : B.Reads w) (hp : IntsAt w A' bits) (hM : EndsAt w) :
    Calls Tryd.prog 7 #[B.val, .int .i64 many, .slice A' bits.length c'] w fun e w' => e = .returned (.bool true) ∧ Below w.heap.size w w' := by
  have HB0 := Lib.hid hB
  have HM0 := Lib.hid hM
  have Hp0 := Lib.hid hp
  clear hB hM hp
  have hcells : B.val = .agg B.cells := rfl
  rw [hcells]
  unfold ForgeV.cells
  go_enter Tryd.func7, Tryd.ntmps7
  go_upto_region 1 with fail
  have k3 := BoxAt.new w B.cells 28
  have H1 : Below w.heap.size w (w.alloc (.cells B.cells 28)) := (Below.refl _ _).alloc (Nat.le_refl _) _
  unfold ForgeV.cells at k3 H1
  generalize w.alloc _ = w1 at *
  have H2 := Lib.hid H1
  have K3 := Lib.hid k3
  obtain ⟨c3, f3, l3⟩ := k3
  clear H1
  go_wp2_with fail
  refine (eq0_1 (v' := B.val) (by unfold ForgeV.val ForgeV.cells; rfl) (sound_calls B _ (HB0.out.below H2.out))).mono ?_
  rintro e w2 ⟨rfl, hb⟩
  clear c3 f3 l3
  replace K3 := Lib.hid (K3.out.below hb)
  replace H2 := Lib.hid (below_then H2.out H2.out.size hb)
  clear hb
  cases hg : goodF B with
  | false =>
    go_wp2_with fail
    refine (works_calls _ (HM0.out.below H2.out)).mono ?_
    rintro e w3 ⟨rfl, hb⟩
    go_wp2
    go_ret
    exact ⟨rfl, below_then H2.out H2.out.size hb⟩
  | true =>
    have Hg := Lib.hid ((goodF_iff B).1 hg)
    clear hg
    go_wp2_with fail
    refine (Turn_calls _ _ _ (by decide)).mono ?_
    rintro e w3 ⟨rfl, rfl⟩
    have hts := turnZ_bd (n := many) (b := 24) (by decide)
    generalize turnZ many 24 = tm at *
    have hw0 : IntKind.i64.wrap (1 + tm) = 1 + tm := wrap_in (by omega) (by omega)
    obtain ⟨c3, f3, l3⟩ := K3.out
    go_wp2_with fail
    refine (eq0_2 (v' := B.val) (by unfold ForgeV.val ForgeV.cells; rfl) (Cast_calls B (1 + tm) _ (HB0.out.below H2.out) (HM0.out.below H2.out))).mono ?_
    rintro e w4 ⟨hc, hb⟩
    clear c3 f3 l3 hw0
    replace K3 := Lib.hid (K3.out.below hb)
    replace H2 := Lib.hid (below_then H2.out H2.out.size hb)
    clear hb
    have hc2 : e = .returned (.tuple #[.slice none 0 0, .int .i64 4]) ∨ ∃ q A, withinS B q = true ∧ rightS B q = true ∧ sumTo q q.length = 1 + tm ∧ e = .returned (.tuple #[.slice A q.length q.length, .int .i64 0]) ∧ IntsAt w4 A q := by
      have hgf := (goodF_iff B).2 Hg.out
      have hin : inB (1 + tm) 1 24 = true := inB_iff.2 (by omega)
      rcases hc with ⟨h1, _⟩ | ⟨_, h1, _⟩ | ⟨_, _, _, h1⟩ | ⟨_, _, q, A, h1, h2, h3⟩
      · rw [hgf] at h1; cases h1
      · rw [hin] at h1; cases h1
      · exact .inl h1
      · have := cast_ok Hg.out (many := 1 + tm) (by omega) h1
        exact .inr ⟨q, A, this.1, this.2.1, this.2.2, h2, h3⟩
    clear hc
    rcases hc2 with rfl | ⟨q, A8, hq1, hq2, hq3, rfl, hl8⟩
    · as_aux_lemma =>
        clear hts
        obtain ⟨c3, f3, l3⟩ := K3.out
        go_wp2_with fail
        refine (eq0_2 (v' := B.val) (by unfold ForgeV.val ForgeV.cells; rfl) (taken_calls B Hg.out A' c' bits _ (HB0.out.below H2.out) (Hp0.out.below H2.out))).mono ?_
        rintro e w5 ⟨⟨A11, c11, rfl, hl11⟩, hb⟩
        have HW := Lib.hid (taken_within Hg.out bits)
        generalize takenTo B bits B.lots.length = V at *
        replace K3 := Lib.hid (K3.out.below hb)
        replace H2 := Lib.hid (below_then H2.out H2.out.size hb)
        have Hl11 := Lib.hid hl11
        clear hb hl11 c3 f3 l3
        obtain ⟨c3, f3, l3⟩ := K3.out
        go_wp2_with fail
        refine (eq0_2 (v' := B.val) (by unfold ForgeV.val ForgeV.cells; rfl) (IsMelt_calls B A11 c11 V _ (HB0.out.below H2.out) Hl11.out (HM0.out.below H2.out))).mono ?_
        rintro e w6 ⟨rfl, hb⟩
        rw [isMelt_good Hg.out, HW.out, Bool.true_and]
        replace K3 := Lib.hid (K3.out.below hb)
        replace H2 := Lib.hid (below_then H2.out H2.out.size hb)
        replace Hl11 := Lib.hid (Hl11.out.below hb)
        clear hb c3 f3 l3
        have hwv := within_at HW.out
        have hvl := hwv.1
        have h4v : V.length ≤ 4 := by have := Hg.out.many; omega
        have hbv := within_bd Hg.out HW.out
        have Hbv := Lib.hid hbv
        have h44 := sumTo_four h4v
        have hn0 := sumTo_nn hbv V.length
        have hn1 : sumTo V V.length ≤ 96 := by omega
        have hrt := fun h => right_tin (B := B) (m := V) h
        have hnr := fun h => not_right (B := B) (m := V) h
        have hzr := zero_right (B := B) (m := V) (fun k => (hbv k).1)
        rw [h44] at hrt hnr hzr
        have t1 := tinTo_bd Hg.out hbv false B.lots.length (Nat.le_refl _)
        have t2 := tinTo_bd Hg.out hbv true B.lots.length (Nat.le_refl _)
        have Hvl := Lib.hid hvl
        have Hsum := Lib.hid (Sum_calls A11 c11 V · · h4v Hbv.out)
        have Hrt := Lib.hid hrt
        have Hnr := Lib.hid hnr
        have Hzr := Lib.hid hzr
        clear hwv hvl hbv h44 hrt hnr hzr
        go_wp2_with fail
        refine (Hsum.out _ Hl11.out).mono ?_
        rintro e w7 ⟨rfl, rfl⟩
        generalize hn : sumTo V V.length = n at *
        have Hn := Lib.hid hn
        clear hn
        by_cases hz : n = 0
        · as_aux_lemma =>
            rw [Hzr.out hz]
            subst hz
            go_wp2_with fail
            refine (works_calls _ (HM0.out.below H2.out)).mono ?_
            rintro e w13 ⟨rfl, hb⟩
            go_wp2
            go_ret
            exact ⟨rfl, below_then H2.out H2.out.size hb⟩
        · obtain ⟨c3, f3, l3⟩ := K3.out
          have Hz := Lib.hid hz
          have hzb : (n == 0) = false := by simp [hz]
          go_wp2_with fail
          refine (eq0_3 (v' := B.val) (by unfold ForgeV.val ForgeV.cells; rfl) (poured_calls B Hg.out A11 c11 V A' c' bits _ (HB0.out.below H2.out) Hl11.out (Hp0.out.below H2.out) HW.out)).mono ?_
          rintro e w8 ⟨⟨p, rfl, hp0, hp1⟩, hb⟩
          clear c3 f3 l3 hz hzb
          replace K3 := Lib.hid (K3.out.below hb)
          replace H2 := Lib.hid (below_then H2.out H2.out.size hb)
          replace Hl11 := Lib.hid (Hl11.out.below hb)
          clear hb
          go_upto_block 0 with (fail)
          go_cut [15, 16] (fun lo hi wx => lo = .int .i64 (tinTo B.lots V false B.lots.length) ∧ hi = .int .i64 (tinTo B.lots V true B.lots.length) ∧ Below w8.heap.size w8 wx)
          case first =>
            as_aux_lemma =>
              have hm4 := Hg.out.many
              obtain ⟨lb, lo, hlA⟩ := HB0.out.lots.some_ (by omega)
              have hlt := HB0.out.lots
              rw [hlA] at hlt
              have Hlt := Lib.hid hlt
              have k3x := K3.out
              rw [hlA] at k3x
              have K3k := Lib.hid k3x
              obtain ⟨ab, ao, hA11, hac⟩ := Hl11.out.2.resolve_left (by intro e; have := Hvl.out; rw [e] at this; simp at this; omega)
              subst hA11
              have Hac := Lib.hid hac
              have hvi : (V.length : Int) = B.lots.length := by have := Hvl.out; omega
              clear k3x hlA hlt hac
              go_wp2
              go_loopg [17, 15, 16] B.lots.length (fun gq i lo hi wr => ∃ k : Nat, k ≤ B.lots.length ∧ gq = B.lots.length - k ∧ i = .int .i64 k ∧ lo = .int .i64 (tinTo B.lots V false k) ∧ hi = .int .i64 (tinTo B.lots V true k) ∧ Below w8.heap.size w8 wr)
              case atStart => exact ⟨0, Nat.zero_le _, rfl, rfl, rfl, rfl, Below.refl _ _⟩
              case round =>
                obtain ⟨k, hk, hgk, rfl, rfl, rfl, hbe⟩ := hrel
                have Hgk := Lib.hid hgk
                have Hbe := Lib.hid hbe
                obtain ⟨c3, f3, l3⟩ := K3k.out.below hbe
                clear hgk hbe
                by_cases hlt' : k < B.lots.length
                · have hki : (k : Int) < V.length := by omega
                  have hac := Hac.out k (by have := Hvl.out; omega)
                  have p0 := (Hbe.out.cell (World.block_lt_of_cell? _ _ hac)).trans hac
                  have pbl := World.block_lt_of_cell? _ _ p0
                  have hpc := Hlt.out.at_ hlt'
                  have H9 := H2.out.trans (Hbe.out.mono H2.out.size)
                  have q0 := (H9.cell (World.block_lt_of_cell? _ _ hpc.2.1)).trans hpc.2.1
                  have q1 := (H9.cell (World.block_lt_of_cell? _ _ hpc.2.2)).trans hpc.2.2
                  have qbl := World.block_lt_of_cell? _ _ q0
                  simp only at pbl qbl
                  have hlg := (Hg.out.lot k hlt').2
                  have hbk := Hbv.out k
                  have b1 := tinTo_bd Hg.out Hbv.out false k hk
                  have b2 := tinTo_bd Hg.out Hbv.out true k hk
                  have m0 : 0 ≤ gi V k * (gl B.lots k).lo := Int.mul_nonneg (by omega) (by omega)
                  have m1 : gi V k * (gl B.lots k).lo ≤ 24 * 1000 := Int.mul_le_mul (by omega) (by omega) (by omega) (by omega)
                  have m2 : 0 ≤ gi V k * (gl B.lots k).hi := Int.mul_nonneg (by omega) (by omega)
                  have m3 : gi V k * (gl B.lots k).hi ≤ 24 * 1000 := Int.mul_le_mul (by omega) (by omega) (by omega) (by omega)
                  have w1_ : IntKind.i64.wrap (gi V k * (gl B.lots k).lo) = gi V k * (gl B.lots k).lo := wrap_in (by omega) (by omega)
                  have w2_ : IntKind.i64.wrap (gi V k * (gl B.lots k).hi) = gi V k * (gl B.lots k).hi := wrap_in (by omega) (by omega)
                  have w3_ : IntKind.i64.wrap (tinTo B.lots V false k + gi V k * (gl B.lots k).lo) = tinTo B.lots V false k + gi V k * (gl B.lots k).lo := wrap_in (by omega) (by omega)
                  have w4_ : IntKind.i64.wrap (tinTo B.lots V true k + gi V k * (gl B.lots k).hi) = tinTo B.lots V true k + gi V k * (gl B.lots k).hi := wrap_in (by omega) (by omega)
                  have Hs1 := Lib.hid (tin_step (B := B) (m := V) false k)
                  have Hs2 := Lib.hid (tin_step (B := B) (m := V) true k)
                  clear hac hpc H9 m0 m1 m2 m3 b1 b2
                  go_wp2
                  go_quiet (fail)
                  go_wp2
                  go_quiet (fail)
                  go_wp2
                  go_roundg (B.lots.length - (k + 1))
                  case measure => have := Hgk.out; omega
                  case rel => exact ⟨k + 1, by omega, rfl, by go_num, by rw [Hs1.out]; rfl, by rw [Hs2.out]; rfl, below_drewN Hbe.out _⟩
                · obtain rfl : k = B.lots.length := by omega
                  have hki : ¬ (B.lots.length : Int) < V.length := by omega
                  go_wp2
                  refine Met.intro ?_
                  go_step
                  (repeat apply Exists.intro)
                  exact ⟨⟨rfl, rfl, Hbe.out⟩, rfl⟩
          case rest =>
            obtain ⟨rfl, rfl, hbe⟩ := hcut
            as_aux_lemma =>
              have H9 := Lib.hid (below_then H2.out H2.out.size hbe)
              obtain ⟨c3, f3, l3⟩ := K3.out.below hbe
              clear hbe
              have htn := Hg.out.tin
              have m0 : 0 ≤ n * B.tlo := Int.mul_nonneg (by omega) (by omega)
              have m1 : n * B.tlo ≤ 96 * 1000 := Int.mul_le_mul (by omega) (by omega) (by omega) (by omega)
              have m2 : 0 ≤ n * B.thi := Int.mul_nonneg (by omega) (by omega)
              have m3 : n * B.thi ≤ 96 * 1000 := Int.mul_le_mul (by omega) (by omega) (by omega) (by omega)
              have w1_ : IntKind.i64.wrap (n * B.tlo) = n * B.tlo := wrap_in (by omega) (by omega)
              have w2_ : IntKind.i64.wrap (n * B.thi) = n * B.thi := wrap_in (by omega) (by omega)
              cases hr : rightS B V with
              | true =>
                have h5 := Hrt.out hr
                have r1 : inB p (n * B.tlo) (n * B.thi) = true := inB_iff.2 (by omega)
                clear h5 m0 m1 m2 m3
                go_wp2_with (first
                  | (go_at_call 48; refine (Sits_calls _ _ _ _).mono ?_; rintro e w' ⟨rfl, rfl⟩; rw [r1])
                  | (go_at_call 27; refine (works_calls _ (HM0.out.below H9.out)).mono ?_; rintro e w13 ⟨rfl, hb⟩))
                go_ret
                exact ⟨rfl, below_then H9.out H9.out.size hb⟩
              | false =>
                have h5 := Hnr.out hr Hz.out
                rcases Int.lt_or_le (tinTo B.lots V false B.lots.length) (n * B.tlo) with h6 | h6
                · clear h5 m0 m1 m2 m3
                  go_wp2_with (go_at_call 27; refine (works_calls _ (HM0.out.below H9.out)).mono ?_; rintro e w13 ⟨rfl, hb⟩)
                  go_ret
                  exact ⟨rfl, below_then H9.out H9.out.size hb⟩
                · have h7 : n * B.thi < tinTo B.lots V true B.lots.length := by rcases h5 with h | h; exact absurd h (Int.not_lt.2 h6); exact h
                  replace h6 := Int.not_lt.2 h6
                  clear h5 m0 m1 m2 m3
                  go_wp2_with (go_at_call 27; refine (works_calls _ (HM0.out.below H9.out)).mono ?_; rintro e w13 ⟨rfl, hb⟩)
                  go_ret
                  exact ⟨rfl, below_then H9.out H9.out.size hb⟩

    · as_aux_lemma =>
        have Hl8 := Lib.hid hl8
        have Hq1 := Lib.hid hq1
        have hbv := within_bd Hg.out hq1
        have hwq := (within_at hq1).1
        have h4q : q.length ≤ 4 := by have := Hg.out.many; omega
        have hrt := right_tin (B := B) (m := q) hq2
        rw [sumTo_four h4q, hq3] at hrt
        have Hbq := Lib.hid hbv
        have Hsq := Lib.hid (Sum_calls A8 q.length q · · h4q Hbq.out)
        rw [hq3] at Hsq
        have hpos : 0 < sumTo q q.length := by rw [hq3]; omega
        have Hpos := Lib.hid hpos
        clear hl8 hq1 hq2 hbv hwq hq3 hpos
        obtain ⟨c3, f3, l3⟩ := K3.out
        go_wp2_with fail
        refine (eq0_3 (v' := B.val) (by unfold ForgeV.val ForgeV.cells; rfl) (poured_calls B Hg.out A8 q.length q A' c' bits _ (HB0.out.below H2.out) Hl8.out (Hp0.out.below H2.out) Hq1.out)).mono ?_
        rintro e w5 ⟨⟨p0, rfl, hp0, hp1⟩, hb⟩
        have Hl8 := Lib.hid (Hl8.out.below hb)
        replace K3 := Lib.hid (K3.out.below hb)
        replace H2 := Lib.hid (below_then H2.out H2.out.size hb)
        clear hb c3 f3 l3
        have r1 : inB p0 ((1 + tm) * B.tlo) ((1 + tm) * B.thi) = true := inB_iff.2 (by omega)
        have htn := Hg.out.tin
        have m0 : 0 ≤ (1 + tm) * B.tlo := Int.mul_nonneg (by omega) (by omega)
        have m1 : (1 + tm) * B.tlo ≤ 24 * 1000 := Int.mul_le_mul (by omega) (by omega) (by omega) (by omega)
        have m2 : 0 ≤ (1 + tm) * B.thi := Int.mul_nonneg (by omega) (by omega)
        have m3 : (1 + tm) * B.thi ≤ 24 * 1000 := Int.mul_le_mul (by omega) (by omega) (by omega) (by omega)
        have w1_ : IntKind.i64.wrap ((1 + tm) * B.tlo) = (1 + tm) * B.tlo := wrap_in (by omega) (by omega)
        have w2_ : IntKind.i64.wrap ((1 + tm) * B.thi) = (1 + tm) * B.thi := wrap_in (by omega) (by omega)
        clear hrt hp0 hp1 htn m0 m1 m2 m3 hts
        obtain ⟨c3, f3, l3⟩ := K3.out
        have Hz : Below w5.heap.size w5 w5 := Below.refl _ _
        go_upto_region 11 with (first
          | (go_at_call 46; refine (eq0_2 (v' := B.val) (by unfold ForgeV.val ForgeV.cells; rfl) (within_calls B Hg.out A8 q.length q _ (HB0.out.below H2.out) Hl8.out Hq1.out Hpos.out)).mono ?_; rintro e w4 ⟨rfl, hb⟩; obtain ⟨c3, f3, l3⟩ := BoxAt.below ⟨c3, f3, l3⟩ hb; have Hz := below_then Hz Hz.size hb; have Hl8 := Lib.hid (Hl8.out.below hb); clear hb)
          | (go_at_call 47; refine (Hsq.out _ Hl8.out).mono ?_; rintro e w' ⟨rfl, rfl⟩)
          | (go_at_call 48; refine (Sits_calls _ _ _ _).mono ?_; rintro e w' ⟨rfl, rfl⟩; rw [r1]))
        replace K3 := Lib.hid (K3.out.below Hz)
        replace H2 := Lib.hid (below_then H2.out H2.out.size Hz)
        clear Hz c3 f3 l3 r1 w1_ w2_ Hl8 Hpos
        obtain ⟨c3, f3, l3⟩ := K3.out
        go_wp2_with fail
        refine (eq0_2 (v' := B.val) (by unfold ForgeV.val ForgeV.cells; rfl) (taken_calls B Hg.out A' c' bits _ (HB0.out.below H2.out) (Hp0.out.below H2.out))).mono ?_
        rintro e w5 ⟨⟨A11, c11, rfl, hl11⟩, hb⟩
        have HW := Lib.hid (taken_within Hg.out bits)
        generalize takenTo B bits B.lots.length = V at *
        replace K3 := Lib.hid (K3.out.below hb)
        replace H2 := Lib.hid (below_then H2.out H2.out.size hb)
        have Hl11 := Lib.hid hl11
        clear hb hl11 c3 f3 l3
        obtain ⟨c3, f3, l3⟩ := K3.out
        go_wp2_with fail
        refine (eq0_2 (v' := B.val) (by unfold ForgeV.val ForgeV.cells; rfl) (IsMelt_calls B A11 c11 V _ (HB0.out.below H2.out) Hl11.out (HM0.out.below H2.out))).mono ?_
        rintro e w6 ⟨rfl, hb⟩
        rw [isMelt_good Hg.out, HW.out, Bool.true_and]
        replace K3 := Lib.hid (K3.out.below hb)
        replace H2 := Lib.hid (below_then H2.out H2.out.size hb)
        replace Hl11 := Lib.hid (Hl11.out.below hb)
        clear hb c3 f3 l3
        have hwv := within_at HW.out
        have hvl := hwv.1
        have h4v : V.length ≤ 4 := by have := Hg.out.many; omega
        have hbv := within_bd Hg.out HW.out
        have Hbv := Lib.hid hbv
        have h44 := sumTo_four h4v
        have hn0 := sumTo_nn hbv V.length
        have hn1 : sumTo V V.length ≤ 96 := by omega
        have hrt := fun h => right_tin (B := B) (m := V) h
        have hnr := fun h => not_right (B := B) (m := V) h
        have hzr := zero_right (B := B) (m := V) (fun k => (hbv k).1)
        rw [h44] at hrt hnr hzr
        have t1 := tinTo_bd Hg.out hbv false B.lots.length (Nat.le_refl _)
        have t2 := tinTo_bd Hg.out hbv true B.lots.length (Nat.le_refl _)
        have Hvl := Lib.hid hvl
        have Hsum := Lib.hid (Sum_calls A11 c11 V · · h4v Hbv.out)
        have Hrt := Lib.hid hrt
        have Hnr := Lib.hid hnr
        have Hzr := Lib.hid hzr
        clear hwv hvl hbv h44 hrt hnr hzr
        go_wp2_with fail
        refine (Hsum.out _ Hl11.out).mono ?_
        rintro e w7 ⟨rfl, rfl⟩
        generalize hn : sumTo V V.length = n at *
        have Hn := Lib.hid hn
        clear hn
        by_cases hz : n = 0
        · as_aux_lemma =>
            rw [Hzr.out hz]
            subst hz
            go_wp2_with fail
            refine (works_calls _ (HM0.out.below H2.out)).mono ?_
            rintro e w13 ⟨rfl, hb⟩
            go_wp2
            go_ret
            exact ⟨rfl, below_then H2.out H2.out.size hb⟩
        · obtain ⟨c3, f3, l3⟩ := K3.out
          have Hz := Lib.hid hz
          have hzb : (n == 0) = false := by simp [hz]
          go_wp2_with fail
          refine (eq0_3 (v' := B.val) (by unfold ForgeV.val ForgeV.cells; rfl) (poured_calls B Hg.out A11 c11 V A' c' bits _ (HB0.out.below H2.out) Hl11.out (Hp0.out.below H2.out) HW.out)).mono ?_
          rintro e w8 ⟨⟨p, rfl, hp0, hp1⟩, hb⟩
          clear c3 f3 l3 hz hzb
          replace K3 := Lib.hid (K3.out.below hb)
          replace H2 := Lib.hid (below_then H2.out H2.out.size hb)
          replace Hl11 := Lib.hid (Hl11.out.below hb)
          clear hb
          go_upto_block 0 with (fail)
          go_cut [15, 16] (fun lo hi wx => lo = .int .i64 (tinTo B.lots V false B.lots.length) ∧ hi = .int .i64 (tinTo B.lots V true B.lots.length) ∧ Below w8.heap.size w8 wx)
          case first =>
            as_aux_lemma =>
              have hm4 := Hg.out.many
              obtain ⟨lb, lo, hlA⟩ := HB0.out.lots.some_ (by omega)
              have hlt := HB0.out.lots
              rw [hlA] at hlt
              have Hlt := Lib.hid hlt
              have k3x := K3.out
              rw [hlA] at k3x
              have K3k := Lib.hid k3x
              obtain ⟨ab, ao, hA11, hac⟩ := Hl11.out.2.resolve_left (by intro e; have := Hvl.out; rw [e] at this; simp at this; omega)
              subst hA11
              have Hac := Lib.hid hac
              have hvi : (V.length : Int) = B.lots.length := by have := Hvl.out; omega
              clear k3x hlA hlt hac
              go_wp2
              go_loopg [17, 15, 16] B.lots.length (fun gq i lo hi wr => ∃ k : Nat, k ≤ B.lots.length ∧ gq = B.lots.length - k ∧ i = .int .i64 k ∧ lo = .int .i64 (tinTo B.lots V false k) ∧ hi = .int .i64 (tinTo B.lots V true k) ∧ Below w8.heap.size w8 wr)
              case atStart => exact ⟨0, Nat.zero_le _, rfl, rfl, rfl, rfl, Below.refl _ _⟩
              case round =>
                obtain ⟨k, hk, hgk, rfl, rfl, rfl, hbe⟩ := hrel
                have Hgk := Lib.hid hgk
                have Hbe := Lib.hid hbe
                obtain ⟨c3, f3, l3⟩ := K3k.out.below hbe
                clear hgk hbe
                by_cases hlt' : k < B.lots.length
                · have hki : (k : Int) < V.length := by omega
                  have hac := Hac.out k (by have := Hvl.out; omega)
                  have p0 := (Hbe.out.cell (World.block_lt_of_cell? _ _ hac)).trans hac
                  have pbl := World.block_lt_of_cell? _ _ p0
                  have hpc := Hlt.out.at_ hlt'
                  have H9 := H2.out.trans (Hbe.out.mono H2.out.size)
                  have q0 := (H9.cell (World.block_lt_of_cell? _ _ hpc.2.1)).trans hpc.2.1
                  have q1 := (H9.cell (World.block_lt_of_cell? _ _ hpc.2.2)).trans hpc.2.2
                  have qbl := World.block_lt_of_cell? _ _ q0
                  simp only at pbl qbl
                  have hlg := (Hg.out.lot k hlt').2
                  have hbk := Hbv.out k
                  have b1 := tinTo_bd Hg.out Hbv.out false k hk
                  have b2 := tinTo_bd Hg.out Hbv.out true k hk
                  have m0 : 0 ≤ gi V k * (gl B.lots k).lo := Int.mul_nonneg (by omega) (by omega)
                  have m1 : gi V k * (gl B.lots k).lo ≤ 24 * 1000 := Int.mul_le_mul (by omega) (by omega) (by omega) (by omega)
                  have m2 : 0 ≤ gi V k * (gl B.lots k).hi := Int.mul_nonneg (by omega) (by omega)
                  have m3 : gi V k * (gl B.lots k).hi ≤ 24 * 1000 := Int.mul_le_mul (by omega) (by omega) (by omega) (by omega)
                  have w1_ : IntKind.i64.wrap (gi V k * (gl B.lots k).lo) = gi V k * (gl B.lots k).lo := wrap_in (by omega) (by omega)
                  have w2_ : IntKind.i64.wrap (gi V k * (gl B.lots k).hi) = gi V k * (gl B.lots k).hi := wrap_in (by omega) (by omega)
                  have w3_ : IntKind.i64.wrap (tinTo B.lots V false k + gi V k * (gl B.lots k).lo) = tinTo B.lots V false k + gi V k * (gl B.lots k).lo := wrap_in (by omega) (by omega)
                  have w4_ : IntKind.i64.wrap (tinTo B.lots V true k + gi V k * (gl B.lots k).hi) = tinTo B.lots V true k + gi V k * (gl B.lots k).hi := wrap_in (by omega) (by omega)
                  have Hs1 := Lib.hid (tin_step (B := B) (m := V) false k)
                  have Hs2 := Lib.hid (tin_step (B := B) (m := V) true k)
                  clear hac hpc H9 m0 m1 m2 m3 b1 b2
                  go_wp2
                  go_quiet (fail)
                  go_wp2
                  go_quiet (fail)
                  go_wp2
                  go_roundg (B.lots.length - (k + 1))
                  case measure => have := Hgk.out; omega
                  case rel => exact ⟨k + 1, by omega, rfl, by go_num, by rw [Hs1.out]; rfl, by rw [Hs2.out]; rfl, below_drewN Hbe.out _⟩
                · obtain rfl : k = B.lots.length := by omega
                  have hki : ¬ (B.lots.length : Int) < V.length := by omega
                  go_wp2
                  refine Met.intro ?_
                  go_step
                  (repeat apply Exists.intro)
                  exact ⟨⟨rfl, rfl, Hbe.out⟩, rfl⟩
          case rest =>
            obtain ⟨rfl, rfl, hbe⟩ := hcut
            as_aux_lemma =>
              have H9 := Lib.hid (below_then H2.out H2.out.size hbe)
              obtain ⟨c3, f3, l3⟩ := K3.out.below hbe
              clear hbe
              have htn := Hg.out.tin
              have m0 : 0 ≤ n * B.tlo := Int.mul_nonneg (by omega) (by omega)
              have m1 : n * B.tlo ≤ 96 * 1000 := Int.mul_le_mul (by omega) (by omega) (by omega) (by omega)
              have m2 : 0 ≤ n * B.thi := Int.mul_nonneg (by omega) (by omega)
              have m3 : n * B.thi ≤ 96 * 1000 := Int.mul_le_mul (by omega) (by omega) (by omega) (by omega)
              have w1_ : IntKind.i64.wrap (n * B.tlo) = n * B.tlo := wrap_in (by omega) (by omega)
              have w2_ : IntKind.i64.wrap (n * B.thi) = n * B.thi := wrap_in (by omega) (by omega)
              cases hr : rightS B V with
              | true =>
                have h5 := Hrt.out hr
                have r1 : inB p (n * B.tlo) (n * B.thi) = true := inB_iff.2 (by omega)
                clear h5 m0 m1 m2 m3
                go_wp2_with (first
                  | (go_at_call 48; refine (Sits_calls _ _ _ _).mono ?_; rintro e w' ⟨rfl, rfl⟩; rw [r1])
                  | (go_at_call 27; refine (works_calls _ (HM0.out.below H9.out)).mono ?_; rintro e w13 ⟨rfl, hb⟩))
                go_ret
                exact ⟨rfl, below_then H9.out H9.out.size hb⟩
              | false =>
                have h5 := Hnr.out hr Hz.out
                rcases Int.lt_or_le (tinTo B.lots V false B.lots.length) (n * B.tlo) with h6 | h6
                · clear h5 m0 m1 m2 m3
                  go_wp2_with (go_at_call 27; refine (works_calls _ (HM0.out.below H9.out)).mono ?_; rintro e w13 ⟨rfl, hb⟩)
                  go_ret
                  exact ⟨rfl, below_then H9.out H9.out.size hb⟩
                · have h7 : n * B.thi < tinTo B.lots V true B.lots.length := by rcases h5 with h | h; exact absurd h (Int.not_lt.2 h6); exact h
                  replace h6 := Int.not_lt.2 h6
                  clear h5 m0 m1 m2 m3
                  go_wp2_with (go_at_call 27; refine (works_calls _ (HM0.out.below H9.out)).mono ?_; rintro e w13 ⟨rfl, hb⟩)
                  go_ret
                  exact ⟨rfl, below_then H9.out H9.out.size hb⟩

end
end Go.Proofs.YtgfbfbfajnfbjaaDoor
