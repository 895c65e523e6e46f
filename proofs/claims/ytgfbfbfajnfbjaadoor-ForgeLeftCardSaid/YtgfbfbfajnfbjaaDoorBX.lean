/- PROVED: ForgeLeft (the walk): the law returns true, whatever the book and the number. -/
import Derived.Test.YtgfbfbfajnfbjaaDoorBW
import Derived.Test.YtgfbfbfajnfbjaaDoorBH
import Derived.Test.YtgfbfbfajnfbjaaDoorW
namespace Go.Proofs.YtgfbfbfajnfbjaaDoor
section
open Go.RowKit Go.Shelf
attribute [local go_sem] Oper.semAt_some
set_option linter.unusedSimpArgs false
set_option linter.unusedVariables false
theorem thick_zero {B : ForgeV} (g : B.Good) : ∃ a b ec, thickR B 0 = .tuple #[.agg #[.int .i64 a, .int .i64 b], .int .i64 ec] ∧ ((ec = 0 ∧ canS B 0 = true) ∨ (ec = 22 ∧ canS B 0 = false)) := by
  have hi : inB 0 0 300 = true := rfl
  unfold thickR
  rw [hi]
  cases hc : canS B 0 with
  | false =>
    have h0 : askedE B true = 22 := by unfold askedE; rw [(goodF_iff B).2 g, hc]; rfl
    rw [h0]
    exact ⟨_, _, _, rfl, .inr ⟨rfl, rfl⟩⟩
  | true =>
    have h0 : askedE B true = 0 := by unfold askedE; rw [(goodF_iff B).2 g, hc]; rfl
    rw [h0]
    exact ⟨_, _, _, rfl, .inl ⟨rfl, rfl⟩⟩
set_option maxRecDepth 100000 in
set_option maxHeartbeats 8000000 in
theorem ForgeLeft_calls (B : ForgeV) (set : Int) (w : World) (hB : B.Reads w) (hM : EndsAt w) :
    Calls Tryd.prog 15 #[B.val, .int .i64 set] w fun e w' => e = .returned (.bool true) ∧ Below w.heap.size w w' := by
  have HB0 := Lib.hid hB
  have HM0 := Lib.hid hM
  clear hB hM
  have hcells : B.val = .agg B.cells := rfl
  rw [hcells]
  unfold ForgeV.cells
  go_enter Tryd.func15, Tryd.ntmps15
  go_upto_region 1 with fail
  have k2 := BoxAt.new w B.cells 28
  have H1 : Below w.heap.size w (w.alloc (.cells B.cells 28)) := (Below.refl _ _).alloc (Nat.le_refl _) _
  unfold ForgeV.cells at k2 H1
  generalize w.alloc _ = w1 at *
  have H2 := Lib.hid H1
  have K2 := Lib.hid k2
  obtain ⟨c2, f2, l2⟩ := k2
  clear H1
  go_wp2_with fail
  refine (eq0_1 (v' := B.val) (by unfold ForgeV.val ForgeV.cells; rfl) (Wrong_calls B _ (HB0.out.below H2.out))).mono ?_
  rintro e w2 ⟨hw, hb⟩
  clear c2 f2 l2
  replace K2 := Lib.hid (K2.out.below hb)
  replace H2 := Lib.hid (below_then H2.out H2.out.size hb)
  clear hb
  rcases hw with ⟨hg, rfl⟩ | ⟨hg, A5, rfl, hl5⟩
  · as_aux_lemma =>
      obtain ⟨c2, f2, l2⟩ := K2.out
      go_wp2_with fail
      refine (eq0_1 (v' := B.val) (by unfold ForgeV.val ForgeV.cells; rfl) (sound_calls B _ (HB0.out.below H2.out))).mono ?_
      rintro e w3 ⟨rfl, hb⟩
      rw [hg]
      replace H2 := Lib.hid (below_then H2.out H2.out.size hb)
      clear hb c2 f2 l2
      go_wp2_with fail
      refine (works_calls _ (HM0.out.below H2.out)).mono ?_
      rintro e w4 ⟨rfl, hb⟩
      go_wp2
      go_ret
      exact ⟨rfl, below_then H2.out H2.out.size hb⟩
  · have Hl5 := Lib.hid hl5
    clear hl5
    obtain ⟨c2, f2, l2⟩ := K2.out
    go_wp2_with fail
    refine (eq0_1 (v' := B.val) (by unfold ForgeV.val ForgeV.cells; rfl) (sound_calls B _ (HB0.out.below H2.out))).mono ?_
    rintro e w3 ⟨rfl, hb⟩
    rw [hg]
    have Hg := Lib.hid ((goodF_iff B).1 hg)
    replace K2 := Lib.hid (K2.out.below hb)
    replace H2 := Lib.hid (below_then H2.out H2.out.size hb)
    replace Hl5 := Lib.hid (Hl5.out.below hb)
    clear hb c2 f2 l2 hg
    have HO := Lib.hid (wrong_ok Hg.out)
    generalize wrongS B = W at *
    obtain ⟨c2, f2, l2⟩ := K2.out
    go_wp2_with fail
    refine (eq0_2 (v' := B.val) (by unfold ForgeV.val ForgeV.cells; rfl) (Thick_calls B 0 _ (HB0.out.below H2.out))).mono ?_
    rintro e w4 ⟨rfl, hb⟩
    obtain ⟨a7, b7, ec, hth, hec⟩ := thick_zero Hg.out
    rw [hth]
    have Hec := Lib.hid hec
    replace K2 := Lib.hid (K2.out.below hb)
    replace H2 := Lib.hid (below_then H2.out H2.out.size hb)
    replace Hl5 := Lib.hid (Hl5.out.below hb)
    clear hb c2 f2 l2 hth hec
    go_upto_region 5 with (fail)
    have hb : Below w4.heap.size w4 (w4.alloc (.cells #[.int .i64 a7, .int .i64 b7] 24)) := (Below.refl _ _).alloc (Nat.le_refl _) _
    generalize World.alloc w4 _ = w5 at *
    replace K2 := Lib.hid (K2.out.below hb)
    replace H2 := Lib.hid (below_then H2.out H2.out.size hb)
    replace Hl5 := Lib.hid (Hl5.out.below hb)
    generalize w4.heap.size = n7 at *
    clear hb
    obtain ⟨c2, f2, l2⟩ := K2.out
    go_wp2_with fail
    refine (eq0_2 (v' := B.val) (by unfold ForgeV.val ForgeV.cells; rfl) (without_calls B Hg.out.looksLen A5 _ W _ (HB0.out.below H2.out) Hl5.out)).mono ?_
    rintro e w6 ⟨⟨A8, c8, rfl, hX⟩, hb⟩
    have HX := Lib.hid hX
    have gX := without_good Hg.out A8 c8 W
    have hcX : canS (without B A8 c8 W) 0 = true := by rw [can_without A8 c8 HO.out.asc]; exact HO.out.can
    obtain ⟨a9, b9, hth⟩ : ∃ a b, thickR (without B A8 c8 W) 0 = .tuple #[.agg #[.int .i64 a, .int .i64 b], .int .i64 0] := by
      obtain ⟨a, b, e, h1, h2⟩ := thick_zero gX
      rcases h2 with ⟨rfl, _⟩ | ⟨_, h3⟩
      · exact ⟨a, b, h1⟩
      · rw [hcX] at h3; cases h3
    replace K2 := Lib.hid (K2.out.below hb)
    replace H2 := Lib.hid (below_then H2.out H2.out.size hb)
    replace Hl5 := Lib.hid (Hl5.out.below hb)
    have Hth := Lib.hid hth
    clear hb c2 f2 l2 hX gX hcX hth
    unfold ForgeV.val
    rw [without_cells]
    go_wp2_with fail
    refine (eq0_2 (v' := (without B A8 c8 W).val) (by unfold ForgeV.val; rw [without_cells]) (Thick_calls (without B A8 c8 W) 0 _ HX.out)).mono ?_
    rintro e w7 ⟨rfl, hb⟩
    rw [Hth.out]
    replace K2 := Lib.hid (K2.out.below hb)
    replace H2 := Lib.hid (below_then H2.out H2.out.size hb)
    replace Hl5 := Lib.hid (Hl5.out.below hb)
    clear hb HX Hth
    go_upto_region 6 with (fail)
    have hb : Below w7.heap.size w7 (w7.alloc (.cells #[.int .i64 a9, .int .i64 b9] 24)) := (Below.refl _ _).alloc (Nat.le_refl _) _
    generalize World.alloc w7 _ = w8 at *
    replace K2 := Lib.hid (K2.out.below hb)
    replace H2 := Lib.hid (below_then H2.out H2.out.size hb)
    replace Hl5 := Lib.hid (Hl5.out.below hb)
    generalize w7.heap.size = n9 at *
    clear hb
    obtain ⟨c2, f2, l2⟩ := K2.out
    have hW : (ec = 0 ∧ W.length = 0) ∨ (ec = 22 ∧ 0 < W.length) := by
      rcases Hec.out with ⟨h1, h2⟩ | ⟨h1, h2⟩
      · exact .inl ⟨h1, HO.out.none.2 h2⟩
      · refine .inr ⟨h1, Nat.pos_of_ne_zero fun h => ?_⟩
        rw [HO.out.none.1 h] at h2; cases h2
    clear Hec
    have hsz : (W.length : Int) = 0 ∧ ec = 0 ∨ ¬ (W.length : Int) = 0 ∧ ec = 22 := by omega
    clear hW
    rcases hsz with ⟨hz, rfl⟩ | ⟨hz, rfl⟩
    all_goals as_aux_lemma =>
        have hzb : ((W.length : Int) == 0) = decide ((W.length : Int) = 0) := rfl
        first | rw [decide_eq_true hz] at hzb | rw [decide_eq_false hz] at hzb
        have Hz := Lib.hid hz
        clear hz
        go_upto_region 8 with (go_at_call 61; refine (Grows_true _ _ _ _ _ Hl5.out (asc_is_rising HO.out.asc)).mono ?_; rintro e w' ⟨rfl, rfl⟩)
        clear hzb
        have h8 := Hg.out.looksLen
        have hp8 : (2 : Int) ^ B.looks.length ≤ 2 ^ 8 := pow_mono h8
        have hp0 : (0 : Int) < 2 ^ B.looks.length := Int.pow_pos (by decide)
        have hpw : (2 : Int) ^ min ((B.looks.length : Int).toNat) 64 = 2 ^ B.looks.length := by rw [show min ((B.looks.length : Int).toNat) 64 = B.looks.length by omega]
        have hwp : IntKind.i64.wrap ((2 : Int) ^ B.looks.length) = 2 ^ B.looks.length := wrap_in (by omega) (by omega)
        have hts := turnZ_bd (n := set) (b := (2 : Int) ^ B.looks.length) (by omega)
        refine region_plain (S := fun w' => Below w8.heap.size w8 w') 11 (by kernel_rfl) ?_ (fun hHeld => ?_)
        · exact (Below.refl _ _).drew
        first | (refine anyT_take 0 (some 64) (v := ?_) rfl rfl (by kernel_rfl) (by kernel_rfl) (by kernel_rfl) (by kernel_rfl) (fun _ _ _ h => h) (Or.inl ⟨by rfl, ?_⟩) hHeld ?_; rotate_left; focus (intro wq hSw; obtain ⟨hcq, hfq⟩ := bcell hSw; go_simp; (try with_reducible rfl); done))
        (try simp only [Act.put, List.setIfInBounds_toArray, List.set_cons_zero, List.set_cons_succ])
        first | (refine anyT_take 1 (some 65) (v := ?_) rfl rfl (by kernel_rfl) (by kernel_rfl) (by kernel_rfl) (by kernel_rfl) (fun _ _ _ h => h) (Or.inl ⟨by rfl, ?_⟩) hHeld ?_; rotate_left; focus (intro wq hSw; obtain ⟨hcq, hfq⟩ := bcell hSw; go_simp; (try with_reducible rfl); done))
        (try simp only [Act.put, List.setIfInBounds_toArray, List.set_cons_zero, List.set_cons_succ])
        first | (refine anyT_take 2 (some 66) (v := ?_) rfl rfl (by kernel_rfl) (by kernel_rfl) (by kernel_rfl) (by kernel_rfl) (fun _ _ _ h => h) (Or.inl ⟨by rfl, ?_⟩) hHeld ?_; rotate_left; focus (intro wq hSw; obtain ⟨hcq, hfq⟩ := bcell hSw; go_simp; (try with_reducible rfl); done))
        (try simp only [Act.put, List.setIfInBounds_toArray, List.set_cons_zero, List.set_cons_succ])
        first | (refine anyT_take 3 (some 67) (v := ?_) rfl rfl (by kernel_rfl) (by kernel_rfl) (by kernel_rfl) (by kernel_rfl) (fun _ _ _ h => h) (Or.inl ⟨by rfl, ?_⟩) hHeld ?_; rotate_left; focus (intro wq hSw; obtain ⟨hcq, hfq⟩ := bcell hSw; go_simp; (try with_reducible rfl); done))
        (try simp only [Act.put, List.setIfInBounds_toArray, List.set_cons_zero, List.set_cons_succ])
        first | (refine anyT_take 4 (some 68) (v := ?_) rfl rfl (by kernel_rfl) (by kernel_rfl) (by kernel_rfl) (by kernel_rfl) (fun _ _ _ h => h) (Or.inl ⟨by rfl, ?_⟩) hHeld ?_; rotate_left; focus (intro wq hSw; obtain ⟨hcq, hfq⟩ := bcell hSw; go_simp; (try with_reducible rfl); done))
        (try simp only [Act.put, List.setIfInBounds_toArray, List.set_cons_zero, List.set_cons_succ])
        first | (refine anyT_take 6 (some 70) (v := ?_) rfl rfl (by kernel_rfl) (by kernel_rfl) (by kernel_rfl) (by kernel_rfl) (fun _ _ _ h => h) (Or.inl ⟨by rfl, ?_⟩) hHeld ?_; rotate_left; focus (intro wq hSw; obtain ⟨hcq, hfq⟩ := bcell hSw; go_simp; (try with_reducible rfl); done))
        (try simp only [Act.put, List.setIfInBounds_toArray, List.set_cons_zero, List.set_cons_succ])
        first | (refine anyT_take 7 (some 71) (v := ?_) rfl rfl (by kernel_rfl) (by kernel_rfl) (by kernel_rfl) (by kernel_rfl) (fun _ _ _ h => h) (Or.inl ⟨by rfl, ?_⟩) hHeld ?_; rotate_left; focus (intro wq hSw; obtain ⟨hcq, hfq⟩ := bcell hSw; go_simp; (try with_reducible rfl); done))
        (try simp only [Act.put, List.setIfInBounds_toArray, List.set_cons_zero, List.set_cons_succ])
        first | (refine anyT_take 8 (some 72) (v := ?_) rfl rfl (by kernel_rfl) (by kernel_rfl) (by kernel_rfl) (by kernel_rfl) (fun _ _ _ h => h) (Or.inl ⟨by rfl, ?_⟩) hHeld ?_; rotate_left; focus (intro wq hSw; obtain ⟨hcq, hfq⟩ := bcell hSw; go_simp; (try with_reducible rfl); done))
        (try simp only [Act.put, List.setIfInBounds_toArray, List.set_cons_zero, List.set_cons_succ])
        refine anyT_one 5 (by kernel_rfl) rfl (fun K hK => ?_)
        go_simp
        refine (Turn_calls _ _ _ (by omega)).mono ?_; rintro e x1 ⟨rfl, rfl⟩
        refine hK.out _ _ ?_ (fun hHeld => ?_)
        · exact hHeld
        clear hK K
        (try simp only [Act.put, List.setIfInBounds_toArray, List.set_cons_zero, List.set_cons_succ])
        refine anyT_one 9 (by kernel_rfl) rfl (fun K hK => ?_)
        go_simp
        refine (Members_calls (turnZ set (2 ^ B.looks.length)) (by omega) B.looks.length h8 _).mono ?_; rintro e x2 ⟨⟨A11, c11, rfl, hl11⟩, hb1⟩
        refine hK.out _ _ ?_ (fun hHeld => ?_)
        · exact below_then hHeld hHeld.size hb1
        clear hK K
        (try simp only [Act.put, List.setIfInBounds_toArray, List.set_cons_zero, List.set_cons_succ])
        first | (refine anyT_take 10 (some 11) (v := ?_) rfl rfl (by kernel_rfl) (by kernel_rfl) (by kernel_rfl) (by kernel_rfl) (fun _ _ _ h => h) (Or.inl ⟨by rfl, ?_⟩) hHeld ?_; rotate_left; focus (intro wq hSw; obtain ⟨hcq, hfq⟩ := bcell hSw; go_simp; (try with_reducible rfl); done))
        (try simp only [Act.put, List.setIfInBounds_toArray, List.set_cons_zero, List.set_cons_succ])
        refine anyT_done (by kernel_rfl) ?_ _
        have hasc := memsTo_asc (turnZ set (2 ^ B.looks.length)) B.looks.length
        generalize memsTo (turnZ set (2 ^ B.looks.length)) B.looks.length = V at *
        have Hl11 := Lib.hid hl11
        have Hasc := Lib.hid hasc
        replace K2 := Lib.hid (K2.out.below hHeld)
        replace H2 := Lib.hid (below_then H2.out H2.out.size hHeld)
        replace Hl5 := Lib.hid (Hl5.out.below hHeld)
        clear hHeld hb1 hl11 hasc c2 f2 l2 hp8 hp0 hpw hwp hts
        rcases Nat.lt_trichotomy V.length W.length with hc | hc | hc
        · have h1 : ¬ (W.length : Int) < V.length := by omega
          have h2 : ¬ (V.length : Int) = W.length := by omega
          have Hno := Lib.hid (HO.out.less V Hasc.out (.inl hc))
          clear hc
          obtain ⟨c2, f2, l2⟩ := K2.out
          go_upto_region 11 with (fail)
          have HX2 := Hno
          go_wp2_with fail
          refine (eq0_2 (v' := B.val) (by unfold ForgeV.val ForgeV.cells; rfl) (without_calls B h8 A11 _ V _ (HB0.out.below H2.out) Hl11.out)).mono ?_
          rintro e w10 ⟨⟨A9, c9, rfl, hX⟩, hb⟩
          have HX := Lib.hid hX
          have gX := without_good Hg.out A9 c9 V
          have hcX : canS (without B A9 c9 V) 0 = false := by rw [can_without A9 c9 Hasc.out]; exact Hno.out
          obtain ⟨a10, b10, hth⟩ : ∃ a b, thickR (without B A9 c9 V) 0 = .tuple #[.agg #[.int .i64 a, .int .i64 b], .int .i64 22] := by
            obtain ⟨a, b, e, h1, h2⟩ := thick_zero gX
            rcases h2 with ⟨_, h3⟩ | ⟨rfl, _⟩
            · rw [hcX] at h3; cases h3
            · exact ⟨a, b, h1⟩
          replace H2 := Lib.hid (below_then H2.out H2.out.size hb)
          have Hth := Lib.hid hth
          clear hb c2 f2 l2 hX gX hcX hth
          unfold ForgeV.val
          rw [without_cells]
          go_wp2_with fail
          refine (eq0_2 (v' := (without B A9 c9 V).val) (by unfold ForgeV.val; rw [without_cells]) (Thick_calls (without B A9 c9 V) 0 _ HX.out)).mono ?_
          rintro e w11 ⟨rfl, hb⟩
          rw [Hth.out]
          replace H2 := Lib.hid (below_then H2.out H2.out.size hb)
          clear hb HX Hth
          go_wp2_with fail
          refine (works_calls _ (HM0.out.below H2.out)).mono ?_
          rintro e w12 ⟨rfl, hb⟩
          go_wp2
          go_ret
          exact ⟨rfl, below_then H2.out H2.out.size hb⟩
        · have h1 : ¬ (W.length : Int) < V.length := by omega
          have h2 : ((V.length : Int) == (W.length : Int)) = true := by simp; omega
          have Hc := Lib.hid hc
          clear hc
          obtain ⟨c2, f2, l2⟩ := K2.out
          go_wp2_with fail
          refine (Sooner_calls _ _ _ _ _ _ _ Hl11.out Hl5.out Hc.out).mono ?_
          rintro e w9 ⟨⟨r, rfl, hr⟩, hb⟩
          have Hr := Lib.hid hr
          replace K2 := Lib.hid (K2.out.below hb)
          replace H2 := Lib.hid (below_then H2.out H2.out.size hb)
          replace Hl11 := Lib.hid (Hl11.out.below hb)
          clear hb c2 f2 l2 hr
          cases r with
          | false =>
            go_wp2_with fail
            refine (works_calls _ (HM0.out.below H2.out)).mono ?_
            rintro e w12 ⟨rfl, hb⟩
            go_wp2
            go_ret
            exact ⟨rfl, below_then H2.out H2.out.size hb⟩
          | true =>
            have Hno := Lib.hid (HO.out.less V Hasc.out (.inr ⟨Hc.out, Hr.out rfl⟩))
            obtain ⟨c2, f2, l2⟩ := K2.out
            have HX2 := Hno
            go_wp2_with fail
            refine (eq0_2 (v' := B.val) (by unfold ForgeV.val ForgeV.cells; rfl) (without_calls B h8 A11 _ V _ (HB0.out.below H2.out) Hl11.out)).mono ?_
            rintro e w10 ⟨⟨A9, c9, rfl, hX⟩, hb⟩
            have HX := Lib.hid hX
            have gX := without_good Hg.out A9 c9 V
            have hcX : canS (without B A9 c9 V) 0 = false := by rw [can_without A9 c9 Hasc.out]; exact Hno.out
            obtain ⟨a10, b10, hth⟩ : ∃ a b, thickR (without B A9 c9 V) 0 = .tuple #[.agg #[.int .i64 a, .int .i64 b], .int .i64 22] := by
              obtain ⟨a, b, e, h1, h2⟩ := thick_zero gX
              rcases h2 with ⟨_, h3⟩ | ⟨rfl, _⟩
              · rw [hcX] at h3; cases h3
              · exact ⟨a, b, h1⟩
            replace H2 := Lib.hid (below_then H2.out H2.out.size hb)
            have Hth := Lib.hid hth
            clear hb c2 f2 l2 hX gX hcX hth
            unfold ForgeV.val
            rw [without_cells]
            go_wp2_with fail
            refine (eq0_2 (v' := (without B A9 c9 V).val) (by unfold ForgeV.val; rw [without_cells]) (Thick_calls (without B A9 c9 V) 0 _ HX.out)).mono ?_
            rintro e w11 ⟨rfl, hb⟩
            rw [Hth.out]
            replace H2 := Lib.hid (below_then H2.out H2.out.size hb)
            clear hb HX Hth
            go_wp2_with fail
            refine (works_calls _ (HM0.out.below H2.out)).mono ?_
            rintro e w12 ⟨rfl, hb⟩
            go_wp2
            go_ret
            exact ⟨rfl, below_then H2.out H2.out.size hb⟩
        · have h1 : (W.length : Int) < V.length := by omega
          go_wp2_with fail
          refine (works_calls _ (HM0.out.below H2.out)).mono ?_
          rintro e w12 ⟨rfl, hb⟩
          go_wp2
          go_ret
          exact ⟨rfl, below_then H2.out H2.out.size hb⟩
end
end Go.Proofs.YtgfbfbfajnfbjaaDoor
