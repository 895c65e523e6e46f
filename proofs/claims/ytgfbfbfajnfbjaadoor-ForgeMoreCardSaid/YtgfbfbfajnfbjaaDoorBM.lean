/- PROVED: ForgeReady (the walk): the law returns true, whatever the book and the number. -/
import Derived.Test.YtgfbfbfajnfbjaaDoorBL
import Derived.Test.YtgfbfbfajnfbjaaDoorBF
import Derived.Test.YtgfbfbfajnfbjaaDoorBH
namespace Go.Proofs.YtgfbfbfajnfbjaaDoor
section
open Go.RowKit Go.Shelf
attribute [local go_sem] Oper.semAt_some
set_option linter.unusedSimpArgs false
set_option linter.unusedVariables false
def underB (a b c d : Int) : Bool := decide (c ≤ a) && decide (b ≤ d)
theorem Under_calls (a b c d : Int) (w : World) : Calls Tryd.prog 58 #[.agg #[.int .i64 a, .int .i64 b], .agg #[.int .i64 c, .int .i64 d]] w fun e w' => e = .returned (.bool (underB a b c d)) ∧ Below w.heap.size w w' := by
  have hb : Below w.heap.size w ((w.alloc (.cells #[.int .i64 a, .int .i64 b] 24)).alloc (.cells #[.int .i64 c, .int .i64 d] 24)) := ((Below.refl _ _).alloc (Nat.le_refl _) _).alloc (by simp) _
  have HF := Lib.hid hb
  clear hb
  go_enter Tryd.func58, Tryd.ntmps58
  by_cases h1 : c ≤ a
  all_goals
    go_wp2
    go_ret
    exact ⟨by (simp [underB, h1] <;> (intros; omega)), HF.out⟩
theorem thick_at {B : ForgeV} (g : B.Good) (hc : canS B 0 = true) {n : Int} (h : 0 ≤ n ∧ n ≤ 300) : thickR B n = .tuple #[.agg #[.int .i64 (betweenS B n).1, .int .i64 (betweenS B n).2], .int .i64 0] := by
  have h0 : askedE B (inB n 0 300) = 0 := by unfold askedE; rw [(goodF_iff B).2 g, inB_iff.2 h, hc]; rfl
  unfold thickR
  rw [if_pos h0]
set_option maxRecDepth 100000 in
set_option maxHeartbeats 8000000 in
theorem ForgeReady_calls (B : ForgeV) (fewer : Int) (w : World) (hB : B.Reads w) (hM : EndsAt w) :
    Calls Tryd.prog 14 #[B.val, .int .i64 fewer] w fun e w' => e = .returned (.bool true) ∧ Below w.heap.size w w' := by
  have HB0 := Lib.hid hB
  have HM0 := Lib.hid hM
  clear hB hM
  have hcells : B.val = .agg B.cells := rfl
  rw [hcells]
  unfold ForgeV.cells
  go_enter Tryd.func14, Tryd.ntmps14
  go_upto_region 1 with fail
  have k2 := BoxAt.new w B.cells 28
  have H1 : Below w.heap.size w (w.alloc (.cells B.cells 28)) := (Below.refl _ _).alloc (Nat.le_refl _) _
  unfold ForgeV.cells at k2 H1
  generalize w.alloc _ = w1 at *
  have H2 := Lib.hid H1
  have K2 := Lib.hid k2
  obtain ⟨c2, f2, l2⟩ := k2
  clear H1
  go_wp2_with fail
  refine (eq0_1 (v' := B.val) (by unfold ForgeV.val ForgeV.cells; rfl) (sound_calls B _ (HB0.out.below H2.out))).mono ?_
  rintro e w2 ⟨rfl, hb⟩
  clear c2 f2 l2
  replace K2 := Lib.hid (K2.out.below hb)
  replace H2 := Lib.hid (below_then H2.out H2.out.size hb)
  clear hb
  cases hg : goodF B with
  | false =>
    go_wp2_with fail
    refine (works_calls _ (HM0.out.below H2.out)).mono ?_
    rintro e w3 ⟨rfl, hb⟩
    go_wp2
    go_ret
    exact ⟨rfl, below_then H2.out H2.out.size hb⟩
  | true =>
    have g := (goodF_iff B).1 hg
    have Hg := Lib.hid g
    obtain ⟨c2, f2, l2⟩ := K2.out
    go_wp2_with fail
    refine (eq0_1 (v' := B.val) (by unfold ForgeV.val ForgeV.cells; rfl) (Blows_calls B _ (HB0.out.below H2.out))).mono ?_
    rintro e w3 ⟨rfl, hb⟩
    clear c2 f2 l2
    replace K2 := Lib.hid (K2.out.below hb)
    replace H2 := Lib.hid (below_then H2.out H2.out.size hb)
    clear hb
    have hr : (canS B 0 = false ∧ blowsR B = .tuple #[.int .i64 0, .int .i64 22] ∧ soundR B = .tuple #[.int .i64 0, .int .i64 22]) ∨ (canS B 0 = true ∧ (
        (∃ N kk, ReadyU B N ∧ blowsR B = .tuple #[.int .i64 N, .int .i64 0] ∧ soundR B = .tuple #[.int .i64 kk, .int .i64 0] ∧ SoundU B kk ∧ ReadyN B N kk) ∨
        (∃ kk, ReadyU B 301 ∧ blowsR B = .tuple #[.int .i64 0, .int .i64 4] ∧ soundR B = .tuple #[.int .i64 kk, .int .i64 0] ∧ SoundU B kk) ∨
        (ReadyU B 301 ∧ blowsR B = .tuple #[.int .i64 0, .int .i64 4] ∧ soundR B = .tuple #[.int .i64 0, .int .i64 4] ∧ B.thick < B.crack))) := ready_parts g
    clear g hg
    rcases hr with ⟨hc, hbl, hso⟩ | ⟨hc, hr⟩
    · rw [hbl]
      obtain ⟨c2, f2, l2⟩ := K2.out
      go_wp2_with fail
      refine (eq0_1 (v' := B.val) (by unfold ForgeV.val ForgeV.cells; rfl) (Sound_calls B _ (HB0.out.below H2.out))).mono ?_
      rintro e w4 ⟨rfl, hb⟩
      rw [hso]
      clear c2 f2 l2
      replace H2 := Lib.hid (below_then H2.out H2.out.size hb)
      clear hb
      go_wp2_with fail
      refine (works_calls _ (HM0.out.below H2.out)).mono ?_
      rintro e w3 ⟨rfl, hb⟩
      go_wp2
      go_ret
      exact ⟨rfl, below_then H2.out H2.out.size hb⟩
    · have Hc := Lib.hid hc
      clear hc
      obtain ⟨N, kk, hu, hbl, hso, hkc, hnn⟩ | ⟨kk, hu, hbl, hso, hkc⟩ | ⟨hu, hbl, hso, hkc⟩ := hr
      all_goals
        rw [hbl]
        obtain ⟨c2, f2, l2⟩ := K2.out
        go_wp2_with fail
        refine (eq0_1 (v' := B.val) (by unfold ForgeV.val ForgeV.cells; rfl) (Sound_calls B _ (HB0.out.below H2.out))).mono ?_
        rintro e w4 ⟨rfl, hb⟩
        rw [hso]
        clear c2 f2 l2 hbl hso
        replace K2 := Lib.hid (K2.out.below hb)
        replace H2 := Lib.hid (below_then H2.out H2.out.size hb)
        clear hb
        have HU := Lib.hid hu
        have Hkc := Lib.hid hkc
        clear hu hkc
      · as_aux_lemma =>
          have Hnn := Lib.hid hnn
          have r1 : inB N 0 300 = true := inB_iff.2 hnn.1
          have r2 : inB kk 0 300 = true := inB_iff.2 Hkc.out.1
          clear hnn
          go_upto_region 12 with (first | (go_at_call 48; refine (Sits_calls _ _ _ _).mono ?_; rintro e w' ⟨rfl, rfl⟩; (first | rw [r1] | rw [r2])))
          have hth := thick_at Hg.out Hc.out (n := N) Hnn.out.1
          obtain ⟨c2, f2, l2⟩ := K2.out
          go_wp2_with fail
          refine (eq0_2 (v' := B.val) (by unfold ForgeV.val ForgeV.cells; rfl) (Thick_calls B _ _ (HB0.out.below H2.out))).mono ?_
          rintro e w5 ⟨rfl, hb⟩
          rw [hth]
          have hun : underB (betweenS B N).1 (betweenS B N).2 B.glo B.ghi = true := by have := Hnn.out.2; unfold underB; simp [this.1, this.2.1]
          have hcr : ¬ (betweenS B N).1 < B.crack := by have := Hnn.out.2.2.2; omega
          have hkn : ¬ kk < N := by have := Hnn.out.2.2.2; omega
          have hN := Hnn.out.1
          generalize (betweenS B N).1 = lo at *
          generalize (betweenS B N).2 = hi at *
          replace K2 := Lib.hid (K2.out.below hb)
          replace H2 := Lib.hid (below_then H2.out H2.out.size hb)
          clear hb c2 f2 l2 hth
          go_upto_region 14 with (fail)
          have hb : Below w5.heap.size w5 (w5.alloc (.cells #[.int .i64 lo, .int .i64 hi] 24)) := (Below.refl _ _).alloc (Nat.le_refl _) _
          have k10 := BoxAt.new w5 #[.int .i64 lo, .int .i64 hi] 24
          generalize World.alloc w5 _ = w6 at *
          replace K2 := Lib.hid (K2.out.below hb)
          replace H2 := Lib.hid (below_then H2.out H2.out.size hb)
          generalize w5.heap.size = n10 at *
          clear hb
          obtain ⟨c2, f2, l2⟩ := K2.out
          obtain ⟨c10, f10, l10⟩ := k10
          have Hz : Below w6.heap.size w6 w6 := Below.refl _ _
          go_upto_region 16 with (first
            | (go_at_call 58; refine (Under_calls _ _ _ _ _).mono ?_; rintro e w' ⟨rfl, hb⟩; rw [hun]; obtain ⟨c2, f2, l2⟩ := BoxAt.below ⟨c2, f2, l2⟩ hb; obtain ⟨c10, f10, l10⟩ := BoxAt.below ⟨c10, f10, l10⟩ hb; have Hz := below_then Hz Hz.size hb; clear hb))
          replace K2 := Lib.hid (K2.out.below Hz)
          replace H2 := Lib.hid (below_then H2.out H2.out.size Hz)
          clear Hz c2 f2 l2 c10 f10 l10 hun hcr hkn
          generalize w' = w4 at *
          by_cases hN0 : N = 0
          · subst hN0
            have hkc := Hkc.out
            have hk9 : 0 ≤ kk ∧ kk ≤ 300 := hkc.1
            have hth := thick_at Hg.out Hc.out (n := kk) (by omega)
            obtain ⟨c2, f2, l2⟩ := K2.out
            go_wp2_with fail
            refine (eq0_2 (v' := B.val) (by unfold ForgeV.val ForgeV.cells; rfl) (Thick_calls B _ _ (HB0.out.below H2.out))).mono ?_
            rintro e w8 ⟨rfl, hb⟩
            rw [hth]
            have hlo : ¬ (betweenS B kk).1 < B.crack := by have := hkc.2.1; omega
            generalize (betweenS B kk).1 = lo1 at *
            generalize (betweenS B kk).2 = hi1 at *
            replace H2 := Lib.hid (below_then H2.out H2.out.size hb)
            replace K2 := Lib.hid (K2.out.below hb)
            clear hb c2 f2 l2 hth
            go_upto_region 23 with (fail)
            have hb : Below w8.heap.size w8 (w8.alloc (.cells #[.int .i64 lo1, .int .i64 hi1] 24)) := (Below.refl _ _).alloc (Nat.le_refl _) _
            have k14 := BoxAt.new w8 #[.int .i64 lo1, .int .i64 hi1] 24
            have hn14 := H2.out.size
            have hn15 := K2.out.lt
            generalize World.alloc w8 _ = w9 at *
            replace H2 := Lib.hid (below_then H2.out H2.out.size hb)
            replace K2 := Lib.hid (K2.out.below hb)
            generalize w8.heap.size = n14 at *
            have K14 := Lib.hid k14
            clear hb
            obtain ⟨c2, f2, l2⟩ := K2.out
            obtain ⟨c14, f14, l14⟩ := k14
            by_cases hk3 : kk = 300
            · as_aux_lemma =>
                subst hk3
                go_wp2_with fail
                refine (works_calls _ (HM0.out.below H2.out)).mono ?_
                rintro e w12 ⟨rfl, hb⟩
                go_wp2
                go_ret
                exact ⟨rfl, below_then H2.out H2.out.size hb⟩
            · as_aux_lemma =>
                have hw1 : IntKind.i64.wrap (kk + 1) = kk + 1 := wrap_in (by omega) (by omega)
                have hth := thick_at Hg.out Hc.out (n := kk + 1) (by omega)
                have hlo2 : (betweenS B (kk + 1)).1 < B.crack := hkc.2.2 hk3
                go_wp2_with fail
                refine (eq0_2 (v' := B.val) (by unfold ForgeV.val ForgeV.cells; rfl) (Thick_calls B _ _ (HB0.out.below H2.out))).mono ?_
                rintro e w10 ⟨rfl, hb⟩
                rw [hth]
                generalize (betweenS B (kk + 1)).1 = lo2 at *
                generalize (betweenS B (kk + 1)).2 = hi2 at *
                replace H2 := Lib.hid (below_then H2.out H2.out.size hb)
                replace K2 := Lib.hid (K2.out.below hb)
                replace K14 := Lib.hid (K14.out.below hb)
                clear hb c2 f2 l2 c14 f14 l14 hth
                obtain ⟨c14, f14, l14⟩ := K14.out
                go_upto_region 28 with (fail)
                obtain ⟨k9, hkb⟩ := box_store2 K14.out rfl (.int .i64 lo2) (.int .i64 hi2)
                have hs9 := hkb w.heap.size (by omega)
                have hkp : Keep (fun k => k = n14) w10 ((w10.setCell ⟨n14, 0, none⟩ (.int .i64 lo2)).setCell ⟨n14, 1, none⟩ (.int .i64 hi2)) := Keep.setCell (M := fun k => k = n14) (Keep.setCell (M := fun k => k = n14) (Keep.refl _ _) (p := ⟨n14, 0, none⟩) (.inl rfl) _) (p := ⟨n14, 1, none⟩) (.inl rfl) _
                have k2 := K2.out.keep hkp (by omega)
                replace H2 := Lib.hid (H2.out.trans hs9)
                clear hkb hkp hs9 c14 f14 l14
                generalize World.setCell (World.setCell _ _ _) _ _ = w11 at *
                obtain ⟨c2, f2, l2⟩ := k2
                obtain ⟨c14, f14, l14⟩ := k9
                go_wp2_with fail
                refine (works_calls _ (HM0.out.below H2.out)).mono ?_
                rintro e w12 ⟨rfl, hb⟩
                go_wp2
                go_ret
                exact ⟨rfl, below_then H2.out H2.out.size hb⟩

          · have hN1 : 0 < N := by omega
            have hth := thick_at Hg.out Hc.out (n := turnZ fewer N) (by have := turnZ_bd (n := fewer) (b := N) (by omega); omega)
            have hno := HU.out.2.2 (turnZ fewer N) (by have := turnZ_bd (n := fewer) (b := N) (by omega); omega) (by have := turnZ_bd (n := fewer) (b := N) (by omega); omega)
            generalize (betweenS B (turnZ fewer N)).1 = lo at *
            generalize (betweenS B (turnZ fewer N)).2 = hi at *
            have Hno := Lib.hid hno
            clear hno
            obtain ⟨c2, f2, l2⟩ := K2.out
            go_upto_region 17 with (fail)
            apply region_told0 (S := fun w' => Below w4.heap.size w4 w') (F := fun m w' => w4.heap.size ≤ m ∧ BoxAt w' m #[.int .i64 lo, .int .i64 hi] ∧ Below w4.heap.size w4 w') 11 (by kernel_rfl)
            case k0 => exact (Below.refl _ _).drew
            case reg =>
              intro hHeld
              generalize hWd : World.drew w4 = Wd at *
              first | (refine anyT_take 0 (some 121) (v := ?_) rfl rfl (by kernel_rfl) (by kernel_rfl) (by kernel_rfl) (by kernel_rfl) (fun _ _ _ h => h) (Or.inl ⟨by rfl, ?_⟩) hHeld ?_; rotate_left; focus (intro wq hSw; obtain ⟨hcq, hfq⟩ := bcell hSw; go_simp; (try with_reducible rfl); done))
              (try simp only [Act.put, List.setIfInBounds_toArray, List.set_cons_zero, List.set_cons_succ])
              first | (refine anyT_take 1 (some 122) (v := ?_) rfl rfl (by kernel_rfl) (by kernel_rfl) (by kernel_rfl) (by kernel_rfl) (fun _ _ _ h => h) (Or.inl ⟨by rfl, ?_⟩) hHeld ?_; rotate_left; focus (intro wq hSw; obtain ⟨hcq, hfq⟩ := bcell hSw; go_simp; (try with_reducible rfl); done))
              (try simp only [Act.put, List.setIfInBounds_toArray, List.set_cons_zero, List.set_cons_succ])
              first | (refine anyT_take 2 (some 123) (v := ?_) rfl rfl (by kernel_rfl) (by kernel_rfl) (by kernel_rfl) (by kernel_rfl) (fun _ _ _ h => h) (Or.inl ⟨by rfl, ?_⟩) hHeld ?_; rotate_left; focus (intro wq hSw; obtain ⟨hcq, hfq⟩ := bcell hSw; go_simp; (try with_reducible rfl); done))
              (try simp only [Act.put, List.setIfInBounds_toArray, List.set_cons_zero, List.set_cons_succ])
              refine anyT_two 3 8 (by kernel_rfl) rfl rfl (fun K hK => ?_) (fun K hK => ?_)
              · go_simp
                refine (Turn_calls _ _ _ (by omega)).mono ?_; rintro e wx ⟨rfl, rfl⟩
                refine hK.out _ _ ?_ (fun hHeld => ?_)
                · exact hHeld
                clear hK K
                (try simp only [Act.put, List.setIfInBounds_toArray, List.set_cons_zero, List.set_cons_succ])
                refine anyT_two 4 8 (by kernel_rfl) rfl rfl (fun K hK => ?_) (fun K hK => ?_)
                · go_simp
                  refine (eq0_2 (v' := B.val) (by unfold ForgeV.val ForgeV.cells; rfl) (Thick_calls B _ _ (HB0.out.below (below_then H2.out H2.out.size hHeld)))).mono ?_; rintro e w5 ⟨rfl, hb5⟩; (try replace k6 := k6.below hb5); rw [hth]
                  refine hK.out _ _ ?_ (fun hHeld => ?_)
                  · exact below_then hHeld hHeld.size hb5
                  clear hK K
                  (try simp only [Act.put, List.setIfInBounds_toArray, List.set_cons_zero, List.set_cons_succ])
                  first | (refine anyT_take 5 (some 120) (v := ?_) rfl rfl (by kernel_rfl) (by kernel_rfl) (by kernel_rfl) (by kernel_rfl) (fun _ _ _ h => h) (Or.inl ⟨by rfl, ?_⟩) hHeld ?_; rotate_left; focus (intro wq hSw; obtain ⟨hcq, hfq⟩ := bcell hSw; go_simp; (try with_reducible rfl); done))
                  (try simp only [Act.put, List.setIfInBounds_toArray, List.set_cons_zero, List.set_cons_succ])
                  first | (refine anyT_take 6 (some 126) (v := ?_) rfl rfl (by kernel_rfl) (by kernel_rfl) (by kernel_rfl) (by kernel_rfl) (fun _ _ _ h => h) (Or.inl ⟨by rfl, ?_⟩) hHeld ?_; rotate_left; focus (intro wq hSw; obtain ⟨hcq, hfq⟩ := bcell hSw; go_simp; (try with_reducible rfl); done))
                  (try simp only [Act.put, List.setIfInBounds_toArray, List.set_cons_zero, List.set_cons_succ])
                  first | (refine anyT_take 7 (some 127) (v := ?_) rfl rfl (by kernel_rfl) (by kernel_rfl) (by kernel_rfl) (by kernel_rfl) (fun _ _ _ h => h) (Or.inl ⟨by rfl, ?_⟩) hHeld ?_; rotate_left; focus (intro wq hSw; obtain ⟨hcq, hfq⟩ := bcell hSw; go_simp; (try with_reducible rfl); done))
                  (try simp only [Act.put, List.setIfInBounds_toArray, List.set_cons_zero, List.set_cons_succ])
                  refine anyT_one 8 (by kernel_rfl) rfl (fun K hK => ?_)
                  go_simp
                  have hn6 := hHeld.size; first | (have k6 := BoxAt.new w5 #[.int .i64 0, .int .i64 0] 24; have hb6 : Below w5.heap.size w5 (w5.alloc (.cells #[.int .i64 0, .int .i64 0] 24)) := (Below.refl _ _).alloc (Nat.le_refl _) _; generalize w5.alloc _ = W6 at *; have hS6 := below_then hHeld hHeld.size hb6; generalize w5.heap.size = n6 at *) | (have k6 := BoxAt.new Wd #[.int .i64 0, .int .i64 0] 24; have hb6 : Below Wd.heap.size Wd (Wd.alloc (.cells #[.int .i64 0, .int .i64 0] 24)) := (Below.refl _ _).alloc (Nat.le_refl _) _; generalize Wd.alloc _ = W6 at *; have hS6 := below_then hHeld hHeld.size hb6; generalize Wd.heap.size = n6 at *)
                  refine hK.out _ _ ?_ (fun hHeld => ?_)
                  · exact hS6
                  clear hK K
                  (try simp only [Act.put, List.setIfInBounds_toArray, List.set_cons_zero, List.set_cons_succ])
                  refine anyT_one 9 (by kernel_rfl) rfl (fun K hK => ?_)
                  have k6' := k6; obtain ⟨c6, f6, l6⟩ := k6
                  go_simp
                  obtain ⟨k9, hkb⟩ := box_store2 k6' rfl (.int .i64 lo) (.int .i64 hi); have hS9 := hHeld.trans (hkb w4.heap.size (by omega)); generalize World.setCell (World.setCell _ _ _) _ _ = W9 at *
                  refine hK.out _ _ ?_ (fun hHeld => ?_)
                  · exact hS9
                  clear hK K
                  (try simp only [Act.put, List.setIfInBounds_toArray, List.set_cons_zero, List.set_cons_succ])
                  first | (refine anyT_take 10 (some 13) (v := ?_) rfl rfl (by kernel_rfl) (by kernel_rfl) (by kernel_rfl) (by kernel_rfl) (fun _ _ _ h => h) (Or.inl ⟨by rfl, ?_⟩) hHeld ?_; rotate_left; focus (intro wq hSw; obtain ⟨hcq, hfq⟩ := bcell hSw; go_simp; (try with_reducible rfl); done))
                  (try simp only [Act.put, List.setIfInBounds_toArray, List.set_cons_zero, List.set_cons_succ])
                  refine anyT_done (by kernel_rfl) ?_ _
                  exact ⟨n6, rfl, hn6, k9, hHeld⟩
                · go_simp
                  have hn6 := hHeld.size; first | (have k6 := BoxAt.new w5 #[.int .i64 0, .int .i64 0] 24; have hb6 : Below w5.heap.size w5 (w5.alloc (.cells #[.int .i64 0, .int .i64 0] 24)) := (Below.refl _ _).alloc (Nat.le_refl _) _; generalize w5.alloc _ = W6 at *; have hS6 := below_then hHeld hHeld.size hb6; generalize w5.heap.size = n6 at *) | (have k6 := BoxAt.new Wd #[.int .i64 0, .int .i64 0] 24; have hb6 : Below Wd.heap.size Wd (Wd.alloc (.cells #[.int .i64 0, .int .i64 0] 24)) := (Below.refl _ _).alloc (Nat.le_refl _) _; generalize Wd.alloc _ = W6 at *; have hS6 := below_then hHeld hHeld.size hb6; generalize Wd.heap.size = n6 at *)
                  refine hK.out _ _ ?_ (fun hHeld => ?_)
                  · exact hS6
                  clear hK K
                  (try simp only [Act.put, List.setIfInBounds_toArray, List.set_cons_zero, List.set_cons_succ])
                  refine anyT_one 4 (by kernel_rfl) rfl (fun K hK => ?_)
                  go_simp
                  refine (eq0_2 (v' := B.val) (by unfold ForgeV.val ForgeV.cells; rfl) (Thick_calls B _ _ (HB0.out.below (below_then H2.out H2.out.size hHeld)))).mono ?_; rintro e w5 ⟨rfl, hb5⟩; (try replace k6 := k6.below hb5); rw [hth]
                  refine hK.out _ _ ?_ (fun hHeld => ?_)
                  · exact below_then hHeld hHeld.size hb5
                  clear hK K
                  (try simp only [Act.put, List.setIfInBounds_toArray, List.set_cons_zero, List.set_cons_succ])
                  first | (refine anyT_take 5 (some 120) (v := ?_) rfl rfl (by kernel_rfl) (by kernel_rfl) (by kernel_rfl) (by kernel_rfl) (fun _ _ _ h => h) (Or.inl ⟨by rfl, ?_⟩) hHeld ?_; rotate_left; focus (intro wq hSw; obtain ⟨hcq, hfq⟩ := bcell hSw; go_simp; (try with_reducible rfl); done))
                  (try simp only [Act.put, List.setIfInBounds_toArray, List.set_cons_zero, List.set_cons_succ])
                  first | (refine anyT_take 6 (some 126) (v := ?_) rfl rfl (by kernel_rfl) (by kernel_rfl) (by kernel_rfl) (by kernel_rfl) (fun _ _ _ h => h) (Or.inl ⟨by rfl, ?_⟩) hHeld ?_; rotate_left; focus (intro wq hSw; obtain ⟨hcq, hfq⟩ := bcell hSw; go_simp; (try with_reducible rfl); done))
                  (try simp only [Act.put, List.setIfInBounds_toArray, List.set_cons_zero, List.set_cons_succ])
                  first | (refine anyT_take 7 (some 127) (v := ?_) rfl rfl (by kernel_rfl) (by kernel_rfl) (by kernel_rfl) (by kernel_rfl) (fun _ _ _ h => h) (Or.inl ⟨by rfl, ?_⟩) hHeld ?_; rotate_left; focus (intro wq hSw; obtain ⟨hcq, hfq⟩ := bcell hSw; go_simp; (try with_reducible rfl); done))
                  (try simp only [Act.put, List.setIfInBounds_toArray, List.set_cons_zero, List.set_cons_succ])
                  refine anyT_one 9 (by kernel_rfl) rfl (fun K hK => ?_)
                  have k6' := k6; obtain ⟨c6, f6, l6⟩ := k6
                  go_simp
                  obtain ⟨k9, hkb⟩ := box_store2 k6' rfl (.int .i64 lo) (.int .i64 hi); have hS9 := hHeld.trans (hkb w4.heap.size (by omega)); generalize World.setCell (World.setCell _ _ _) _ _ = W9 at *
                  refine hK.out _ _ ?_ (fun hHeld => ?_)
                  · exact hS9
                  clear hK K
                  (try simp only [Act.put, List.setIfInBounds_toArray, List.set_cons_zero, List.set_cons_succ])
                  first | (refine anyT_take 10 (some 13) (v := ?_) rfl rfl (by kernel_rfl) (by kernel_rfl) (by kernel_rfl) (by kernel_rfl) (fun _ _ _ h => h) (Or.inl ⟨by rfl, ?_⟩) hHeld ?_; rotate_left; focus (intro wq hSw; obtain ⟨hcq, hfq⟩ := bcell hSw; go_simp; (try with_reducible rfl); done))
                  (try simp only [Act.put, List.setIfInBounds_toArray, List.set_cons_zero, List.set_cons_succ])
                  refine anyT_done (by kernel_rfl) ?_ _
                  exact ⟨n6, rfl, hn6, k9, hHeld⟩
              · go_simp
                have hn6 := hHeld.size; first | (have k6 := BoxAt.new w5 #[.int .i64 0, .int .i64 0] 24; have hb6 : Below w5.heap.size w5 (w5.alloc (.cells #[.int .i64 0, .int .i64 0] 24)) := (Below.refl _ _).alloc (Nat.le_refl _) _; generalize w5.alloc _ = W6 at *; have hS6 := below_then hHeld hHeld.size hb6; generalize w5.heap.size = n6 at *) | (have k6 := BoxAt.new Wd #[.int .i64 0, .int .i64 0] 24; have hb6 : Below Wd.heap.size Wd (Wd.alloc (.cells #[.int .i64 0, .int .i64 0] 24)) := (Below.refl _ _).alloc (Nat.le_refl _) _; generalize Wd.alloc _ = W6 at *; have hS6 := below_then hHeld hHeld.size hb6; generalize Wd.heap.size = n6 at *)
                refine hK.out _ _ ?_ (fun hHeld => ?_)
                · exact hS6
                clear hK K
                (try simp only [Act.put, List.setIfInBounds_toArray, List.set_cons_zero, List.set_cons_succ])
                refine anyT_one 3 (by kernel_rfl) rfl (fun K hK => ?_)
                go_simp
                refine (Turn_calls _ _ _ (by omega)).mono ?_; rintro e wx ⟨rfl, rfl⟩
                refine hK.out _ _ ?_ (fun hHeld => ?_)
                · exact hHeld
                clear hK K
                (try simp only [Act.put, List.setIfInBounds_toArray, List.set_cons_zero, List.set_cons_succ])
                refine anyT_one 4 (by kernel_rfl) rfl (fun K hK => ?_)
                go_simp
                refine (eq0_2 (v' := B.val) (by unfold ForgeV.val ForgeV.cells; rfl) (Thick_calls B _ _ (HB0.out.below (below_then H2.out H2.out.size hHeld)))).mono ?_; rintro e w5 ⟨rfl, hb5⟩; (try replace k6 := k6.below hb5); rw [hth]
                refine hK.out _ _ ?_ (fun hHeld => ?_)
                · exact below_then hHeld hHeld.size hb5
                clear hK K
                (try simp only [Act.put, List.setIfInBounds_toArray, List.set_cons_zero, List.set_cons_succ])
                first | (refine anyT_take 5 (some 120) (v := ?_) rfl rfl (by kernel_rfl) (by kernel_rfl) (by kernel_rfl) (by kernel_rfl) (fun _ _ _ h => h) (Or.inl ⟨by rfl, ?_⟩) hHeld ?_; rotate_left; focus (intro wq hSw; obtain ⟨hcq, hfq⟩ := bcell hSw; go_simp; (try with_reducible rfl); done))
                (try simp only [Act.put, List.setIfInBounds_toArray, List.set_cons_zero, List.set_cons_succ])
                first | (refine anyT_take 6 (some 126) (v := ?_) rfl rfl (by kernel_rfl) (by kernel_rfl) (by kernel_rfl) (by kernel_rfl) (fun _ _ _ h => h) (Or.inl ⟨by rfl, ?_⟩) hHeld ?_; rotate_left; focus (intro wq hSw; obtain ⟨hcq, hfq⟩ := bcell hSw; go_simp; (try with_reducible rfl); done))
                (try simp only [Act.put, List.setIfInBounds_toArray, List.set_cons_zero, List.set_cons_succ])
                first | (refine anyT_take 7 (some 127) (v := ?_) rfl rfl (by kernel_rfl) (by kernel_rfl) (by kernel_rfl) (by kernel_rfl) (fun _ _ _ h => h) (Or.inl ⟨by rfl, ?_⟩) hHeld ?_; rotate_left; focus (intro wq hSw; obtain ⟨hcq, hfq⟩ := bcell hSw; go_simp; (try with_reducible rfl); done))
                (try simp only [Act.put, List.setIfInBounds_toArray, List.set_cons_zero, List.set_cons_succ])
                refine anyT_one 9 (by kernel_rfl) rfl (fun K hK => ?_)
                have k6' := k6; obtain ⟨c6, f6, l6⟩ := k6
                go_simp
                obtain ⟨k9, hkb⟩ := box_store2 k6' rfl (.int .i64 lo) (.int .i64 hi); have hS9 := hHeld.trans (hkb w4.heap.size (by omega)); generalize World.setCell (World.setCell _ _ _) _ _ = W9 at *
                refine hK.out _ _ ?_ (fun hHeld => ?_)
                · exact hS9
                clear hK K
                (try simp only [Act.put, List.setIfInBounds_toArray, List.set_cons_zero, List.set_cons_succ])
                first | (refine anyT_take 10 (some 13) (v := ?_) rfl rfl (by kernel_rfl) (by kernel_rfl) (by kernel_rfl) (by kernel_rfl) (fun _ _ _ h => h) (Or.inl ⟨by rfl, ?_⟩) hHeld ?_; rotate_left; focus (intro wq hSw; obtain ⟨hcq, hfq⟩ := bcell hSw; go_simp; (try with_reducible rfl); done))
                (try simp only [Act.put, List.setIfInBounds_toArray, List.set_cons_zero, List.set_cons_succ])
                refine anyT_done (by kernel_rfl) ?_ _
                exact ⟨n6, rfl, hn6, k9, hHeld⟩
            rintro n12 w6 ⟨hn12, k12, hb⟩
            replace H2 := Lib.hid (below_then H2.out H2.out.size hb)
            replace K2 := Lib.hid (K2.out.below hb)
            clear hb c2 f2 l2
            obtain ⟨c2, f2, l2⟩ := K2.out
            obtain ⟨c12, f12, l12⟩ := k12
            have Hz : Below w6.heap.size w6 w6 := Below.refl _ _
            have hun : (decide (B.glo ≤ lo) && decide (hi ≤ B.ghi)) = false ∨ ((decide (B.glo ≤ lo) && decide (hi ≤ B.ghi)) = true ∧ ¬ B.crack ≤ lo) := by
              by_cases h1 : B.glo ≤ lo
              · by_cases h2 : hi ≤ B.ghi
                · exact .inr ⟨by simp [h1, h2], Hno.out h1 h2⟩
                · exact .inl (by simp [h2])
              · exact .inl (by simp [h1])
            clear Hno
            rcases hun with hun | ⟨hun, hcr⟩

            all_goals as_aux_lemma =>
              go_upto_region 20 with (first
                | (go_at_call 58; refine (Under_calls _ _ _ _ _).mono ?_; rintro e w' ⟨rfl, hb⟩; unfold underB; rw [hun]; obtain ⟨c2, f2, l2⟩ := BoxAt.below ⟨c2, f2, l2⟩ hb; obtain ⟨c12, f12, l12⟩ := BoxAt.below ⟨c12, f12, l12⟩ hb; have Hz := below_then Hz Hz.size hb; clear hb))
              replace H2 := Lib.hid (below_then H2.out H2.out.size Hz)
              replace K2 := Lib.hid (K2.out.below Hz)
              clear Hz c2 f2 l2 c12 f12 l12 hun

              have hkc := Hkc.out
              have hk9 : 0 ≤ kk ∧ kk ≤ 300 := hkc.1
              have hth := thick_at Hg.out Hc.out (n := kk) (by omega)
              obtain ⟨c2, f2, l2⟩ := K2.out
              go_wp2_with fail
              refine (eq0_2 (v' := B.val) (by unfold ForgeV.val ForgeV.cells; rfl) (Thick_calls B _ _ (HB0.out.below H2.out))).mono ?_
              rintro e w8 ⟨rfl, hb⟩
              rw [hth]
              have hlo : ¬ (betweenS B kk).1 < B.crack := by have := hkc.2.1; omega
              generalize (betweenS B kk).1 = lo1 at *
              generalize (betweenS B kk).2 = hi1 at *
              replace H2 := Lib.hid (below_then H2.out H2.out.size hb)
              replace K2 := Lib.hid (K2.out.below hb)
              clear hb c2 f2 l2 hth
              go_upto_region 23 with (fail)
              have hb : Below w8.heap.size w8 (w8.alloc (.cells #[.int .i64 lo1, .int .i64 hi1] 24)) := (Below.refl _ _).alloc (Nat.le_refl _) _
              have k14 := BoxAt.new w8 #[.int .i64 lo1, .int .i64 hi1] 24
              have hn14 := H2.out.size
              have hn15 := K2.out.lt
              generalize World.alloc w8 _ = w9 at *
              replace H2 := Lib.hid (below_then H2.out H2.out.size hb)
              replace K2 := Lib.hid (K2.out.below hb)
              generalize w8.heap.size = n14 at *
              have K14 := Lib.hid k14
              clear hb
              obtain ⟨c2, f2, l2⟩ := K2.out
              obtain ⟨c14, f14, l14⟩ := k14
              by_cases hk3 : kk = 300
              · as_aux_lemma =>
                  subst hk3
                  go_wp2_with fail
                  refine (works_calls _ (HM0.out.below H2.out)).mono ?_
                  rintro e w12 ⟨rfl, hb⟩
                  go_wp2
                  go_ret
                  exact ⟨rfl, below_then H2.out H2.out.size hb⟩
              · as_aux_lemma =>
                  have hw1 : IntKind.i64.wrap (kk + 1) = kk + 1 := wrap_in (by omega) (by omega)
                  have hth := thick_at Hg.out Hc.out (n := kk + 1) (by omega)
                  have hlo2 : (betweenS B (kk + 1)).1 < B.crack := hkc.2.2 hk3
                  go_wp2_with fail
                  refine (eq0_2 (v' := B.val) (by unfold ForgeV.val ForgeV.cells; rfl) (Thick_calls B _ _ (HB0.out.below H2.out))).mono ?_
                  rintro e w10 ⟨rfl, hb⟩
                  rw [hth]
                  generalize (betweenS B (kk + 1)).1 = lo2 at *
                  generalize (betweenS B (kk + 1)).2 = hi2 at *
                  replace H2 := Lib.hid (below_then H2.out H2.out.size hb)
                  replace K2 := Lib.hid (K2.out.below hb)
                  replace K14 := Lib.hid (K14.out.below hb)
                  clear hb c2 f2 l2 c14 f14 l14 hth
                  obtain ⟨c14, f14, l14⟩ := K14.out
                  go_upto_region 28 with (fail)
                  obtain ⟨k9, hkb⟩ := box_store2 K14.out rfl (.int .i64 lo2) (.int .i64 hi2)
                  have hs9 := hkb w.heap.size (by omega)
                  have hkp : Keep (fun k => k = n14) w10 ((w10.setCell ⟨n14, 0, none⟩ (.int .i64 lo2)).setCell ⟨n14, 1, none⟩ (.int .i64 hi2)) := Keep.setCell (M := fun k => k = n14) (Keep.setCell (M := fun k => k = n14) (Keep.refl _ _) (p := ⟨n14, 0, none⟩) (.inl rfl) _) (p := ⟨n14, 1, none⟩) (.inl rfl) _
                  have k2 := K2.out.keep hkp (by omega)
                  replace H2 := Lib.hid (H2.out.trans hs9)
                  clear hkb hkp hs9 c14 f14 l14
                  generalize World.setCell (World.setCell _ _ _) _ _ = w11 at *
                  obtain ⟨c2, f2, l2⟩ := k2
                  obtain ⟨c14, f14, l14⟩ := k9
                  go_wp2_with fail
                  refine (works_calls _ (HM0.out.below H2.out)).mono ?_
                  rintro e w12 ⟨rfl, hb⟩
                  go_wp2
                  go_ret
                  exact ⟨rfl, below_then H2.out H2.out.size hb⟩

      · as_aux_lemma =>
          have r2 : inB kk 0 300 = true := inB_iff.2 Hkc.out.1
          have r1 : inB 0 0 300 = true := rfl
          go_upto_region 16 with (first | (go_at_call 48; refine (Sits_calls _ _ _ _).mono ?_; rintro e w' ⟨rfl, rfl⟩; (first | rw [r1] | rw [r2])))
          have hth := thick_at Hg.out Hc.out (n := turnZ fewer 301) (by have := turnZ_bd (n := fewer) (b := 301) (by omega); omega)
          have hno := HU.out.2.2 (turnZ fewer 301) (by have := turnZ_bd (n := fewer) (b := 301) (by omega); omega) (by have := turnZ_bd (n := fewer) (b := 301) (by omega); omega)
          generalize (betweenS B (turnZ fewer 301)).1 = lo at *
          generalize (betweenS B (turnZ fewer 301)).2 = hi at *
          have Hno := Lib.hid hno
          clear hno
          obtain ⟨c2, f2, l2⟩ := K2.out
          go_upto_region 17 with (fail)
          apply region_told0 (S := fun w' => Below w4.heap.size w4 w') (F := fun m w' => w4.heap.size ≤ m ∧ BoxAt w' m #[.int .i64 lo, .int .i64 hi] ∧ Below w4.heap.size w4 w') 11 (by kernel_rfl)
          case k0 => exact (Below.refl _ _).drew
          case reg =>
            intro hHeld
            generalize hWd : World.drew w4 = Wd at *
            first | (refine anyT_take 0 (some 121) (v := ?_) rfl rfl (by kernel_rfl) (by kernel_rfl) (by kernel_rfl) (by kernel_rfl) (fun _ _ _ h => h) (Or.inl ⟨by rfl, ?_⟩) hHeld ?_; rotate_left; focus (intro wq hSw; obtain ⟨hcq, hfq⟩ := bcell hSw; go_simp; (try with_reducible rfl); done))
            (try simp only [Act.put, List.setIfInBounds_toArray, List.set_cons_zero, List.set_cons_succ])
            first | (refine anyT_take 1 (some 122) (v := ?_) rfl rfl (by kernel_rfl) (by kernel_rfl) (by kernel_rfl) (by kernel_rfl) (fun _ _ _ h => h) (Or.inl ⟨by rfl, ?_⟩) hHeld ?_; rotate_left; focus (intro wq hSw; obtain ⟨hcq, hfq⟩ := bcell hSw; go_simp; (try with_reducible rfl); done))
            (try simp only [Act.put, List.setIfInBounds_toArray, List.set_cons_zero, List.set_cons_succ])
            first | (refine anyT_take 2 (some 123) (v := ?_) rfl rfl (by kernel_rfl) (by kernel_rfl) (by kernel_rfl) (by kernel_rfl) (fun _ _ _ h => h) (Or.inl ⟨by rfl, ?_⟩) hHeld ?_; rotate_left; focus (intro wq hSw; obtain ⟨hcq, hfq⟩ := bcell hSw; go_simp; (try with_reducible rfl); done))
            (try simp only [Act.put, List.setIfInBounds_toArray, List.set_cons_zero, List.set_cons_succ])
            refine anyT_two 3 8 (by kernel_rfl) rfl rfl (fun K hK => ?_) (fun K hK => ?_)
            · go_simp
              refine (Turn_calls _ _ _ (by omega)).mono ?_; rintro e wx ⟨rfl, rfl⟩
              refine hK.out _ _ ?_ (fun hHeld => ?_)
              · exact hHeld
              clear hK K
              (try simp only [Act.put, List.setIfInBounds_toArray, List.set_cons_zero, List.set_cons_succ])
              refine anyT_two 4 8 (by kernel_rfl) rfl rfl (fun K hK => ?_) (fun K hK => ?_)
              · go_simp
                refine (eq0_2 (v' := B.val) (by unfold ForgeV.val ForgeV.cells; rfl) (Thick_calls B _ _ (HB0.out.below (below_then H2.out H2.out.size hHeld)))).mono ?_; rintro e w5 ⟨rfl, hb5⟩; (try replace k6 := k6.below hb5); rw [hth]
                refine hK.out _ _ ?_ (fun hHeld => ?_)
                · exact below_then hHeld hHeld.size hb5
                clear hK K
                (try simp only [Act.put, List.setIfInBounds_toArray, List.set_cons_zero, List.set_cons_succ])
                first | (refine anyT_take 5 (some 120) (v := ?_) rfl rfl (by kernel_rfl) (by kernel_rfl) (by kernel_rfl) (by kernel_rfl) (fun _ _ _ h => h) (Or.inl ⟨by rfl, ?_⟩) hHeld ?_; rotate_left; focus (intro wq hSw; obtain ⟨hcq, hfq⟩ := bcell hSw; go_simp; (try with_reducible rfl); done))
                (try simp only [Act.put, List.setIfInBounds_toArray, List.set_cons_zero, List.set_cons_succ])
                first | (refine anyT_take 6 (some 126) (v := ?_) rfl rfl (by kernel_rfl) (by kernel_rfl) (by kernel_rfl) (by kernel_rfl) (fun _ _ _ h => h) (Or.inl ⟨by rfl, ?_⟩) hHeld ?_; rotate_left; focus (intro wq hSw; obtain ⟨hcq, hfq⟩ := bcell hSw; go_simp; (try with_reducible rfl); done))
                (try simp only [Act.put, List.setIfInBounds_toArray, List.set_cons_zero, List.set_cons_succ])
                first | (refine anyT_take 7 (some 127) (v := ?_) rfl rfl (by kernel_rfl) (by kernel_rfl) (by kernel_rfl) (by kernel_rfl) (fun _ _ _ h => h) (Or.inl ⟨by rfl, ?_⟩) hHeld ?_; rotate_left; focus (intro wq hSw; obtain ⟨hcq, hfq⟩ := bcell hSw; go_simp; (try with_reducible rfl); done))
                (try simp only [Act.put, List.setIfInBounds_toArray, List.set_cons_zero, List.set_cons_succ])
                refine anyT_one 8 (by kernel_rfl) rfl (fun K hK => ?_)
                go_simp
                have hn6 := hHeld.size; first | (have k6 := BoxAt.new w5 #[.int .i64 0, .int .i64 0] 24; have hb6 : Below w5.heap.size w5 (w5.alloc (.cells #[.int .i64 0, .int .i64 0] 24)) := (Below.refl _ _).alloc (Nat.le_refl _) _; generalize w5.alloc _ = W6 at *; have hS6 := below_then hHeld hHeld.size hb6; generalize w5.heap.size = n6 at *) | (have k6 := BoxAt.new Wd #[.int .i64 0, .int .i64 0] 24; have hb6 : Below Wd.heap.size Wd (Wd.alloc (.cells #[.int .i64 0, .int .i64 0] 24)) := (Below.refl _ _).alloc (Nat.le_refl _) _; generalize Wd.alloc _ = W6 at *; have hS6 := below_then hHeld hHeld.size hb6; generalize Wd.heap.size = n6 at *)
                refine hK.out _ _ ?_ (fun hHeld => ?_)
                · exact hS6
                clear hK K
                (try simp only [Act.put, List.setIfInBounds_toArray, List.set_cons_zero, List.set_cons_succ])
                refine anyT_one 9 (by kernel_rfl) rfl (fun K hK => ?_)
                have k6' := k6; obtain ⟨c6, f6, l6⟩ := k6
                go_simp
                obtain ⟨k9, hkb⟩ := box_store2 k6' rfl (.int .i64 lo) (.int .i64 hi); have hS9 := hHeld.trans (hkb w4.heap.size (by omega)); generalize World.setCell (World.setCell _ _ _) _ _ = W9 at *
                refine hK.out _ _ ?_ (fun hHeld => ?_)
                · exact hS9
                clear hK K
                (try simp only [Act.put, List.setIfInBounds_toArray, List.set_cons_zero, List.set_cons_succ])
                first | (refine anyT_take 10 (some 13) (v := ?_) rfl rfl (by kernel_rfl) (by kernel_rfl) (by kernel_rfl) (by kernel_rfl) (fun _ _ _ h => h) (Or.inl ⟨by rfl, ?_⟩) hHeld ?_; rotate_left; focus (intro wq hSw; obtain ⟨hcq, hfq⟩ := bcell hSw; go_simp; (try with_reducible rfl); done))
                (try simp only [Act.put, List.setIfInBounds_toArray, List.set_cons_zero, List.set_cons_succ])
                refine anyT_done (by kernel_rfl) ?_ _
                exact ⟨n6, rfl, hn6, k9, hHeld⟩
              · go_simp
                have hn6 := hHeld.size; first | (have k6 := BoxAt.new w5 #[.int .i64 0, .int .i64 0] 24; have hb6 : Below w5.heap.size w5 (w5.alloc (.cells #[.int .i64 0, .int .i64 0] 24)) := (Below.refl _ _).alloc (Nat.le_refl _) _; generalize w5.alloc _ = W6 at *; have hS6 := below_then hHeld hHeld.size hb6; generalize w5.heap.size = n6 at *) | (have k6 := BoxAt.new Wd #[.int .i64 0, .int .i64 0] 24; have hb6 : Below Wd.heap.size Wd (Wd.alloc (.cells #[.int .i64 0, .int .i64 0] 24)) := (Below.refl _ _).alloc (Nat.le_refl _) _; generalize Wd.alloc _ = W6 at *; have hS6 := below_then hHeld hHeld.size hb6; generalize Wd.heap.size = n6 at *)
                refine hK.out _ _ ?_ (fun hHeld => ?_)
                · exact hS6
                clear hK K
                (try simp only [Act.put, List.setIfInBounds_toArray, List.set_cons_zero, List.set_cons_succ])
                refine anyT_one 4 (by kernel_rfl) rfl (fun K hK => ?_)
                go_simp
                refine (eq0_2 (v' := B.val) (by unfold ForgeV.val ForgeV.cells; rfl) (Thick_calls B _ _ (HB0.out.below (below_then H2.out H2.out.size hHeld)))).mono ?_; rintro e w5 ⟨rfl, hb5⟩; (try replace k6 := k6.below hb5); rw [hth]
                refine hK.out _ _ ?_ (fun hHeld => ?_)
                · exact below_then hHeld hHeld.size hb5
                clear hK K
                (try simp only [Act.put, List.setIfInBounds_toArray, List.set_cons_zero, List.set_cons_succ])
                first | (refine anyT_take 5 (some 120) (v := ?_) rfl rfl (by kernel_rfl) (by kernel_rfl) (by kernel_rfl) (by kernel_rfl) (fun _ _ _ h => h) (Or.inl ⟨by rfl, ?_⟩) hHeld ?_; rotate_left; focus (intro wq hSw; obtain ⟨hcq, hfq⟩ := bcell hSw; go_simp; (try with_reducible rfl); done))
                (try simp only [Act.put, List.setIfInBounds_toArray, List.set_cons_zero, List.set_cons_succ])
                first | (refine anyT_take 6 (some 126) (v := ?_) rfl rfl (by kernel_rfl) (by kernel_rfl) (by kernel_rfl) (by kernel_rfl) (fun _ _ _ h => h) (Or.inl ⟨by rfl, ?_⟩) hHeld ?_; rotate_left; focus (intro wq hSw; obtain ⟨hcq, hfq⟩ := bcell hSw; go_simp; (try with_reducible rfl); done))
                (try simp only [Act.put, List.setIfInBounds_toArray, List.set_cons_zero, List.set_cons_succ])
                first | (refine anyT_take 7 (some 127) (v := ?_) rfl rfl (by kernel_rfl) (by kernel_rfl) (by kernel_rfl) (by kernel_rfl) (fun _ _ _ h => h) (Or.inl ⟨by rfl, ?_⟩) hHeld ?_; rotate_left; focus (intro wq hSw; obtain ⟨hcq, hfq⟩ := bcell hSw; go_simp; (try with_reducible rfl); done))
                (try simp only [Act.put, List.setIfInBounds_toArray, List.set_cons_zero, List.set_cons_succ])
                refine anyT_one 9 (by kernel_rfl) rfl (fun K hK => ?_)
                have k6' := k6; obtain ⟨c6, f6, l6⟩ := k6
                go_simp
                obtain ⟨k9, hkb⟩ := box_store2 k6' rfl (.int .i64 lo) (.int .i64 hi); have hS9 := hHeld.trans (hkb w4.heap.size (by omega)); generalize World.setCell (World.setCell _ _ _) _ _ = W9 at *
                refine hK.out _ _ ?_ (fun hHeld => ?_)
                · exact hS9
                clear hK K
                (try simp only [Act.put, List.setIfInBounds_toArray, List.set_cons_zero, List.set_cons_succ])
                first | (refine anyT_take 10 (some 13) (v := ?_) rfl rfl (by kernel_rfl) (by kernel_rfl) (by kernel_rfl) (by kernel_rfl) (fun _ _ _ h => h) (Or.inl ⟨by rfl, ?_⟩) hHeld ?_; rotate_left; focus (intro wq hSw; obtain ⟨hcq, hfq⟩ := bcell hSw; go_simp; (try with_reducible rfl); done))
                (try simp only [Act.put, List.setIfInBounds_toArray, List.set_cons_zero, List.set_cons_succ])
                refine anyT_done (by kernel_rfl) ?_ _
                exact ⟨n6, rfl, hn6, k9, hHeld⟩
            · go_simp
              have hn6 := hHeld.size; first | (have k6 := BoxAt.new w5 #[.int .i64 0, .int .i64 0] 24; have hb6 : Below w5.heap.size w5 (w5.alloc (.cells #[.int .i64 0, .int .i64 0] 24)) := (Below.refl _ _).alloc (Nat.le_refl _) _; generalize w5.alloc _ = W6 at *; have hS6 := below_then hHeld hHeld.size hb6; generalize w5.heap.size = n6 at *) | (have k6 := BoxAt.new Wd #[.int .i64 0, .int .i64 0] 24; have hb6 : Below Wd.heap.size Wd (Wd.alloc (.cells #[.int .i64 0, .int .i64 0] 24)) := (Below.refl _ _).alloc (Nat.le_refl _) _; generalize Wd.alloc _ = W6 at *; have hS6 := below_then hHeld hHeld.size hb6; generalize Wd.heap.size = n6 at *)
              refine hK.out _ _ ?_ (fun hHeld => ?_)
              · exact hS6
              clear hK K
              (try simp only [Act.put, List.setIfInBounds_toArray, List.set_cons_zero, List.set_cons_succ])
              refine anyT_one 3 (by kernel_rfl) rfl (fun K hK => ?_)
              go_simp
              refine (Turn_calls _ _ _ (by omega)).mono ?_; rintro e wx ⟨rfl, rfl⟩
              refine hK.out _ _ ?_ (fun hHeld => ?_)
              · exact hHeld
              clear hK K
              (try simp only [Act.put, List.setIfInBounds_toArray, List.set_cons_zero, List.set_cons_succ])
              refine anyT_one 4 (by kernel_rfl) rfl (fun K hK => ?_)
              go_simp
              refine (eq0_2 (v' := B.val) (by unfold ForgeV.val ForgeV.cells; rfl) (Thick_calls B _ _ (HB0.out.below (below_then H2.out H2.out.size hHeld)))).mono ?_; rintro e w5 ⟨rfl, hb5⟩; (try replace k6 := k6.below hb5); rw [hth]
              refine hK.out _ _ ?_ (fun hHeld => ?_)
              · exact below_then hHeld hHeld.size hb5
              clear hK K
              (try simp only [Act.put, List.setIfInBounds_toArray, List.set_cons_zero, List.set_cons_succ])
              first | (refine anyT_take 5 (some 120) (v := ?_) rfl rfl (by kernel_rfl) (by kernel_rfl) (by kernel_rfl) (by kernel_rfl) (fun _ _ _ h => h) (Or.inl ⟨by rfl, ?_⟩) hHeld ?_; rotate_left; focus (intro wq hSw; obtain ⟨hcq, hfq⟩ := bcell hSw; go_simp; (try with_reducible rfl); done))
              (try simp only [Act.put, List.setIfInBounds_toArray, List.set_cons_zero, List.set_cons_succ])
              first | (refine anyT_take 6 (some 126) (v := ?_) rfl rfl (by kernel_rfl) (by kernel_rfl) (by kernel_rfl) (by kernel_rfl) (fun _ _ _ h => h) (Or.inl ⟨by rfl, ?_⟩) hHeld ?_; rotate_left; focus (intro wq hSw; obtain ⟨hcq, hfq⟩ := bcell hSw; go_simp; (try with_reducible rfl); done))
              (try simp only [Act.put, List.setIfInBounds_toArray, List.set_cons_zero, List.set_cons_succ])
              first | (refine anyT_take 7 (some 127) (v := ?_) rfl rfl (by kernel_rfl) (by kernel_rfl) (by kernel_rfl) (by kernel_rfl) (fun _ _ _ h => h) (Or.inl ⟨by rfl, ?_⟩) hHeld ?_; rotate_left; focus (intro wq hSw; obtain ⟨hcq, hfq⟩ := bcell hSw; go_simp; (try with_reducible rfl); done))
              (try simp only [Act.put, List.setIfInBounds_toArray, List.set_cons_zero, List.set_cons_succ])
              refine anyT_one 9 (by kernel_rfl) rfl (fun K hK => ?_)
              have k6' := k6; obtain ⟨c6, f6, l6⟩ := k6
              go_simp
              obtain ⟨k9, hkb⟩ := box_store2 k6' rfl (.int .i64 lo) (.int .i64 hi); have hS9 := hHeld.trans (hkb w4.heap.size (by omega)); generalize World.setCell (World.setCell _ _ _) _ _ = W9 at *
              refine hK.out _ _ ?_ (fun hHeld => ?_)
              · exact hS9
              clear hK K
              (try simp only [Act.put, List.setIfInBounds_toArray, List.set_cons_zero, List.set_cons_succ])
              first | (refine anyT_take 10 (some 13) (v := ?_) rfl rfl (by kernel_rfl) (by kernel_rfl) (by kernel_rfl) (by kernel_rfl) (fun _ _ _ h => h) (Or.inl ⟨by rfl, ?_⟩) hHeld ?_; rotate_left; focus (intro wq hSw; obtain ⟨hcq, hfq⟩ := bcell hSw; go_simp; (try with_reducible rfl); done))
              (try simp only [Act.put, List.setIfInBounds_toArray, List.set_cons_zero, List.set_cons_succ])
              refine anyT_done (by kernel_rfl) ?_ _
              exact ⟨n6, rfl, hn6, k9, hHeld⟩
          rintro n12 w6 ⟨hn12, k12, hb⟩
          replace H2 := Lib.hid (below_then H2.out H2.out.size hb)
          replace K2 := Lib.hid (K2.out.below hb)
          clear hb c2 f2 l2
          obtain ⟨c2, f2, l2⟩ := K2.out
          obtain ⟨c12, f12, l12⟩ := k12
          have Hz : Below w6.heap.size w6 w6 := Below.refl _ _
          have hun : (decide (B.glo ≤ lo) && decide (hi ≤ B.ghi)) = false ∨ ((decide (B.glo ≤ lo) && decide (hi ≤ B.ghi)) = true ∧ ¬ B.crack ≤ lo) := by
            by_cases h1 : B.glo ≤ lo
            · by_cases h2 : hi ≤ B.ghi
              · exact .inr ⟨by simp [h1, h2], Hno.out h1 h2⟩
              · exact .inl (by simp [h2])
            · exact .inl (by simp [h1])
          clear Hno
          rcases hun with hun | ⟨hun, hcr⟩

          all_goals as_aux_lemma =>
            go_upto_region 20 with (first
              | (go_at_call 58; refine (Under_calls _ _ _ _ _).mono ?_; rintro e w' ⟨rfl, hb⟩; unfold underB; rw [hun]; obtain ⟨c2, f2, l2⟩ := BoxAt.below ⟨c2, f2, l2⟩ hb; obtain ⟨c12, f12, l12⟩ := BoxAt.below ⟨c12, f12, l12⟩ hb; have Hz := below_then Hz Hz.size hb; clear hb))
            replace H2 := Lib.hid (below_then H2.out H2.out.size Hz)
            replace K2 := Lib.hid (K2.out.below Hz)
            clear Hz c2 f2 l2 c12 f12 l12 hun

            have hkc := Hkc.out
            have hk9 : 0 ≤ kk ∧ kk ≤ 300 := hkc.1
            have hth := thick_at Hg.out Hc.out (n := kk) (by omega)
            obtain ⟨c2, f2, l2⟩ := K2.out
            go_wp2_with fail
            refine (eq0_2 (v' := B.val) (by unfold ForgeV.val ForgeV.cells; rfl) (Thick_calls B _ _ (HB0.out.below H2.out))).mono ?_
            rintro e w8 ⟨rfl, hb⟩
            rw [hth]
            have hlo : ¬ (betweenS B kk).1 < B.crack := by have := hkc.2.1; omega
            generalize (betweenS B kk).1 = lo1 at *
            generalize (betweenS B kk).2 = hi1 at *
            replace H2 := Lib.hid (below_then H2.out H2.out.size hb)
            replace K2 := Lib.hid (K2.out.below hb)
            clear hb c2 f2 l2 hth
            go_upto_region 23 with (fail)
            have hb : Below w8.heap.size w8 (w8.alloc (.cells #[.int .i64 lo1, .int .i64 hi1] 24)) := (Below.refl _ _).alloc (Nat.le_refl _) _
            have k14 := BoxAt.new w8 #[.int .i64 lo1, .int .i64 hi1] 24
            have hn14 := H2.out.size
            have hn15 := K2.out.lt
            generalize World.alloc w8 _ = w9 at *
            replace H2 := Lib.hid (below_then H2.out H2.out.size hb)
            replace K2 := Lib.hid (K2.out.below hb)
            generalize w8.heap.size = n14 at *
            have K14 := Lib.hid k14
            clear hb
            obtain ⟨c2, f2, l2⟩ := K2.out
            obtain ⟨c14, f14, l14⟩ := k14
            by_cases hk3 : kk = 300
            · as_aux_lemma =>
                subst hk3
                go_wp2_with fail
                refine (works_calls _ (HM0.out.below H2.out)).mono ?_
                rintro e w12 ⟨rfl, hb⟩
                go_wp2
                go_ret
                exact ⟨rfl, below_then H2.out H2.out.size hb⟩
            · as_aux_lemma =>
                have hw1 : IntKind.i64.wrap (kk + 1) = kk + 1 := wrap_in (by omega) (by omega)
                have hth := thick_at Hg.out Hc.out (n := kk + 1) (by omega)
                have hlo2 : (betweenS B (kk + 1)).1 < B.crack := hkc.2.2 hk3
                go_wp2_with fail
                refine (eq0_2 (v' := B.val) (by unfold ForgeV.val ForgeV.cells; rfl) (Thick_calls B _ _ (HB0.out.below H2.out))).mono ?_
                rintro e w10 ⟨rfl, hb⟩
                rw [hth]
                generalize (betweenS B (kk + 1)).1 = lo2 at *
                generalize (betweenS B (kk + 1)).2 = hi2 at *
                replace H2 := Lib.hid (below_then H2.out H2.out.size hb)
                replace K2 := Lib.hid (K2.out.below hb)
                replace K14 := Lib.hid (K14.out.below hb)
                clear hb c2 f2 l2 c14 f14 l14 hth
                obtain ⟨c14, f14, l14⟩ := K14.out
                go_upto_region 28 with (fail)
                obtain ⟨k9, hkb⟩ := box_store2 K14.out rfl (.int .i64 lo2) (.int .i64 hi2)
                have hs9 := hkb w.heap.size (by omega)
                have hkp : Keep (fun k => k = n14) w10 ((w10.setCell ⟨n14, 0, none⟩ (.int .i64 lo2)).setCell ⟨n14, 1, none⟩ (.int .i64 hi2)) := Keep.setCell (M := fun k => k = n14) (Keep.setCell (M := fun k => k = n14) (Keep.refl _ _) (p := ⟨n14, 0, none⟩) (.inl rfl) _) (p := ⟨n14, 1, none⟩) (.inl rfl) _
                have k2 := K2.out.keep hkp (by omega)
                replace H2 := Lib.hid (H2.out.trans hs9)
                clear hkb hkp hs9 c14 f14 l14
                generalize World.setCell (World.setCell _ _ _) _ _ = w11 at *
                obtain ⟨c2, f2, l2⟩ := k2
                obtain ⟨c14, f14, l14⟩ := k9
                go_wp2_with fail
                refine (works_calls _ (HM0.out.below H2.out)).mono ?_
                rintro e w12 ⟨rfl, hb⟩
                go_wp2
                go_ret
                exact ⟨rfl, below_then H2.out H2.out.size hb⟩

      · as_aux_lemma =>
          have r1 : inB 0 0 300 = true := rfl
          go_upto_region 16 with (first | (go_at_call 48; refine (Sits_calls _ _ _ _).mono ?_; rintro e w' ⟨rfl, rfl⟩; (first | rw [r1])))
          have hth := thick_at Hg.out Hc.out (n := turnZ fewer 301) (by have := turnZ_bd (n := fewer) (b := 301) (by omega); omega)
          have hno := HU.out.2.2 (turnZ fewer 301) (by have := turnZ_bd (n := fewer) (b := 301) (by omega); omega) (by have := turnZ_bd (n := fewer) (b := 301) (by omega); omega)
          generalize (betweenS B (turnZ fewer 301)).1 = lo at *
          generalize (betweenS B (turnZ fewer 301)).2 = hi at *
          have Hno := Lib.hid hno
          clear hno
          obtain ⟨c2, f2, l2⟩ := K2.out
          go_upto_region 17 with (fail)
          apply region_told0 (S := fun w' => Below w4.heap.size w4 w') (F := fun m w' => w4.heap.size ≤ m ∧ BoxAt w' m #[.int .i64 lo, .int .i64 hi] ∧ Below w4.heap.size w4 w') 11 (by kernel_rfl)
          case k0 => exact (Below.refl _ _).drew
          case reg =>
            intro hHeld
            generalize hWd : World.drew w4 = Wd at *
            first | (refine anyT_take 0 (some 121) (v := ?_) rfl rfl (by kernel_rfl) (by kernel_rfl) (by kernel_rfl) (by kernel_rfl) (fun _ _ _ h => h) (Or.inl ⟨by rfl, ?_⟩) hHeld ?_; rotate_left; focus (intro wq hSw; obtain ⟨hcq, hfq⟩ := bcell hSw; go_simp; (try with_reducible rfl); done))
            (try simp only [Act.put, List.setIfInBounds_toArray, List.set_cons_zero, List.set_cons_succ])
            first | (refine anyT_take 1 (some 122) (v := ?_) rfl rfl (by kernel_rfl) (by kernel_rfl) (by kernel_rfl) (by kernel_rfl) (fun _ _ _ h => h) (Or.inl ⟨by rfl, ?_⟩) hHeld ?_; rotate_left; focus (intro wq hSw; obtain ⟨hcq, hfq⟩ := bcell hSw; go_simp; (try with_reducible rfl); done))
            (try simp only [Act.put, List.setIfInBounds_toArray, List.set_cons_zero, List.set_cons_succ])
            first | (refine anyT_take 2 (some 123) (v := ?_) rfl rfl (by kernel_rfl) (by kernel_rfl) (by kernel_rfl) (by kernel_rfl) (fun _ _ _ h => h) (Or.inl ⟨by rfl, ?_⟩) hHeld ?_; rotate_left; focus (intro wq hSw; obtain ⟨hcq, hfq⟩ := bcell hSw; go_simp; (try with_reducible rfl); done))
            (try simp only [Act.put, List.setIfInBounds_toArray, List.set_cons_zero, List.set_cons_succ])
            refine anyT_two 3 8 (by kernel_rfl) rfl rfl (fun K hK => ?_) (fun K hK => ?_)
            · go_simp
              refine (Turn_calls _ _ _ (by omega)).mono ?_; rintro e wx ⟨rfl, rfl⟩
              refine hK.out _ _ ?_ (fun hHeld => ?_)
              · exact hHeld
              clear hK K
              (try simp only [Act.put, List.setIfInBounds_toArray, List.set_cons_zero, List.set_cons_succ])
              refine anyT_two 4 8 (by kernel_rfl) rfl rfl (fun K hK => ?_) (fun K hK => ?_)
              · go_simp
                refine (eq0_2 (v' := B.val) (by unfold ForgeV.val ForgeV.cells; rfl) (Thick_calls B _ _ (HB0.out.below (below_then H2.out H2.out.size hHeld)))).mono ?_; rintro e w5 ⟨rfl, hb5⟩; (try replace k6 := k6.below hb5); rw [hth]
                refine hK.out _ _ ?_ (fun hHeld => ?_)
                · exact below_then hHeld hHeld.size hb5
                clear hK K
                (try simp only [Act.put, List.setIfInBounds_toArray, List.set_cons_zero, List.set_cons_succ])
                first | (refine anyT_take 5 (some 120) (v := ?_) rfl rfl (by kernel_rfl) (by kernel_rfl) (by kernel_rfl) (by kernel_rfl) (fun _ _ _ h => h) (Or.inl ⟨by rfl, ?_⟩) hHeld ?_; rotate_left; focus (intro wq hSw; obtain ⟨hcq, hfq⟩ := bcell hSw; go_simp; (try with_reducible rfl); done))
                (try simp only [Act.put, List.setIfInBounds_toArray, List.set_cons_zero, List.set_cons_succ])
                first | (refine anyT_take 6 (some 126) (v := ?_) rfl rfl (by kernel_rfl) (by kernel_rfl) (by kernel_rfl) (by kernel_rfl) (fun _ _ _ h => h) (Or.inl ⟨by rfl, ?_⟩) hHeld ?_; rotate_left; focus (intro wq hSw; obtain ⟨hcq, hfq⟩ := bcell hSw; go_simp; (try with_reducible rfl); done))
                (try simp only [Act.put, List.setIfInBounds_toArray, List.set_cons_zero, List.set_cons_succ])
                first | (refine anyT_take 7 (some 127) (v := ?_) rfl rfl (by kernel_rfl) (by kernel_rfl) (by kernel_rfl) (by kernel_rfl) (fun _ _ _ h => h) (Or.inl ⟨by rfl, ?_⟩) hHeld ?_; rotate_left; focus (intro wq hSw; obtain ⟨hcq, hfq⟩ := bcell hSw; go_simp; (try with_reducible rfl); done))
                (try simp only [Act.put, List.setIfInBounds_toArray, List.set_cons_zero, List.set_cons_succ])
                refine anyT_one 8 (by kernel_rfl) rfl (fun K hK => ?_)
                go_simp
                have hn6 := hHeld.size; first | (have k6 := BoxAt.new w5 #[.int .i64 0, .int .i64 0] 24; have hb6 : Below w5.heap.size w5 (w5.alloc (.cells #[.int .i64 0, .int .i64 0] 24)) := (Below.refl _ _).alloc (Nat.le_refl _) _; generalize w5.alloc _ = W6 at *; have hS6 := below_then hHeld hHeld.size hb6; generalize w5.heap.size = n6 at *) | (have k6 := BoxAt.new Wd #[.int .i64 0, .int .i64 0] 24; have hb6 : Below Wd.heap.size Wd (Wd.alloc (.cells #[.int .i64 0, .int .i64 0] 24)) := (Below.refl _ _).alloc (Nat.le_refl _) _; generalize Wd.alloc _ = W6 at *; have hS6 := below_then hHeld hHeld.size hb6; generalize Wd.heap.size = n6 at *)
                refine hK.out _ _ ?_ (fun hHeld => ?_)
                · exact hS6
                clear hK K
                (try simp only [Act.put, List.setIfInBounds_toArray, List.set_cons_zero, List.set_cons_succ])
                refine anyT_one 9 (by kernel_rfl) rfl (fun K hK => ?_)
                have k6' := k6; obtain ⟨c6, f6, l6⟩ := k6
                go_simp
                obtain ⟨k9, hkb⟩ := box_store2 k6' rfl (.int .i64 lo) (.int .i64 hi); have hS9 := hHeld.trans (hkb w4.heap.size (by omega)); generalize World.setCell (World.setCell _ _ _) _ _ = W9 at *
                refine hK.out _ _ ?_ (fun hHeld => ?_)
                · exact hS9
                clear hK K
                (try simp only [Act.put, List.setIfInBounds_toArray, List.set_cons_zero, List.set_cons_succ])
                first | (refine anyT_take 10 (some 13) (v := ?_) rfl rfl (by kernel_rfl) (by kernel_rfl) (by kernel_rfl) (by kernel_rfl) (fun _ _ _ h => h) (Or.inl ⟨by rfl, ?_⟩) hHeld ?_; rotate_left; focus (intro wq hSw; obtain ⟨hcq, hfq⟩ := bcell hSw; go_simp; (try with_reducible rfl); done))
                (try simp only [Act.put, List.setIfInBounds_toArray, List.set_cons_zero, List.set_cons_succ])
                refine anyT_done (by kernel_rfl) ?_ _
                exact ⟨n6, rfl, hn6, k9, hHeld⟩
              · go_simp
                have hn6 := hHeld.size; first | (have k6 := BoxAt.new w5 #[.int .i64 0, .int .i64 0] 24; have hb6 : Below w5.heap.size w5 (w5.alloc (.cells #[.int .i64 0, .int .i64 0] 24)) := (Below.refl _ _).alloc (Nat.le_refl _) _; generalize w5.alloc _ = W6 at *; have hS6 := below_then hHeld hHeld.size hb6; generalize w5.heap.size = n6 at *) | (have k6 := BoxAt.new Wd #[.int .i64 0, .int .i64 0] 24; have hb6 : Below Wd.heap.size Wd (Wd.alloc (.cells #[.int .i64 0, .int .i64 0] 24)) := (Below.refl _ _).alloc (Nat.le_refl _) _; generalize Wd.alloc _ = W6 at *; have hS6 := below_then hHeld hHeld.size hb6; generalize Wd.heap.size = n6 at *)
                refine hK.out _ _ ?_ (fun hHeld => ?_)
                · exact hS6
                clear hK K
                (try simp only [Act.put, List.setIfInBounds_toArray, List.set_cons_zero, List.set_cons_succ])
                refine anyT_one 4 (by kernel_rfl) rfl (fun K hK => ?_)
                go_simp
                refine (eq0_2 (v' := B.val) (by unfold ForgeV.val ForgeV.cells; rfl) (Thick_calls B _ _ (HB0.out.below (below_then H2.out H2.out.size hHeld)))).mono ?_; rintro e w5 ⟨rfl, hb5⟩; (try replace k6 := k6.below hb5); rw [hth]
                refine hK.out _ _ ?_ (fun hHeld => ?_)
                · exact below_then hHeld hHeld.size hb5
                clear hK K
                (try simp only [Act.put, List.setIfInBounds_toArray, List.set_cons_zero, List.set_cons_succ])
                first | (refine anyT_take 5 (some 120) (v := ?_) rfl rfl (by kernel_rfl) (by kernel_rfl) (by kernel_rfl) (by kernel_rfl) (fun _ _ _ h => h) (Or.inl ⟨by rfl, ?_⟩) hHeld ?_; rotate_left; focus (intro wq hSw; obtain ⟨hcq, hfq⟩ := bcell hSw; go_simp; (try with_reducible rfl); done))
                (try simp only [Act.put, List.setIfInBounds_toArray, List.set_cons_zero, List.set_cons_succ])
                first | (refine anyT_take 6 (some 126) (v := ?_) rfl rfl (by kernel_rfl) (by kernel_rfl) (by kernel_rfl) (by kernel_rfl) (fun _ _ _ h => h) (Or.inl ⟨by rfl, ?_⟩) hHeld ?_; rotate_left; focus (intro wq hSw; obtain ⟨hcq, hfq⟩ := bcell hSw; go_simp; (try with_reducible rfl); done))
                (try simp only [Act.put, List.setIfInBounds_toArray, List.set_cons_zero, List.set_cons_succ])
                first | (refine anyT_take 7 (some 127) (v := ?_) rfl rfl (by kernel_rfl) (by kernel_rfl) (by kernel_rfl) (by kernel_rfl) (fun _ _ _ h => h) (Or.inl ⟨by rfl, ?_⟩) hHeld ?_; rotate_left; focus (intro wq hSw; obtain ⟨hcq, hfq⟩ := bcell hSw; go_simp; (try with_reducible rfl); done))
                (try simp only [Act.put, List.setIfInBounds_toArray, List.set_cons_zero, List.set_cons_succ])
                refine anyT_one 9 (by kernel_rfl) rfl (fun K hK => ?_)
                have k6' := k6; obtain ⟨c6, f6, l6⟩ := k6
                go_simp
                obtain ⟨k9, hkb⟩ := box_store2 k6' rfl (.int .i64 lo) (.int .i64 hi); have hS9 := hHeld.trans (hkb w4.heap.size (by omega)); generalize World.setCell (World.setCell _ _ _) _ _ = W9 at *
                refine hK.out _ _ ?_ (fun hHeld => ?_)
                · exact hS9
                clear hK K
                (try simp only [Act.put, List.setIfInBounds_toArray, List.set_cons_zero, List.set_cons_succ])
                first | (refine anyT_take 10 (some 13) (v := ?_) rfl rfl (by kernel_rfl) (by kernel_rfl) (by kernel_rfl) (by kernel_rfl) (fun _ _ _ h => h) (Or.inl ⟨by rfl, ?_⟩) hHeld ?_; rotate_left; focus (intro wq hSw; obtain ⟨hcq, hfq⟩ := bcell hSw; go_simp; (try with_reducible rfl); done))
                (try simp only [Act.put, List.setIfInBounds_toArray, List.set_cons_zero, List.set_cons_succ])
                refine anyT_done (by kernel_rfl) ?_ _
                exact ⟨n6, rfl, hn6, k9, hHeld⟩
            · go_simp
              have hn6 := hHeld.size; first | (have k6 := BoxAt.new w5 #[.int .i64 0, .int .i64 0] 24; have hb6 : Below w5.heap.size w5 (w5.alloc (.cells #[.int .i64 0, .int .i64 0] 24)) := (Below.refl _ _).alloc (Nat.le_refl _) _; generalize w5.alloc _ = W6 at *; have hS6 := below_then hHeld hHeld.size hb6; generalize w5.heap.size = n6 at *) | (have k6 := BoxAt.new Wd #[.int .i64 0, .int .i64 0] 24; have hb6 : Below Wd.heap.size Wd (Wd.alloc (.cells #[.int .i64 0, .int .i64 0] 24)) := (Below.refl _ _).alloc (Nat.le_refl _) _; generalize Wd.alloc _ = W6 at *; have hS6 := below_then hHeld hHeld.size hb6; generalize Wd.heap.size = n6 at *)
              refine hK.out _ _ ?_ (fun hHeld => ?_)
              · exact hS6
              clear hK K
              (try simp only [Act.put, List.setIfInBounds_toArray, List.set_cons_zero, List.set_cons_succ])
              refine anyT_one 3 (by kernel_rfl) rfl (fun K hK => ?_)
              go_simp
              refine (Turn_calls _ _ _ (by omega)).mono ?_; rintro e wx ⟨rfl, rfl⟩
              refine hK.out _ _ ?_ (fun hHeld => ?_)
              · exact hHeld
              clear hK K
              (try simp only [Act.put, List.setIfInBounds_toArray, List.set_cons_zero, List.set_cons_succ])
              refine anyT_one 4 (by kernel_rfl) rfl (fun K hK => ?_)
              go_simp
              refine (eq0_2 (v' := B.val) (by unfold ForgeV.val ForgeV.cells; rfl) (Thick_calls B _ _ (HB0.out.below (below_then H2.out H2.out.size hHeld)))).mono ?_; rintro e w5 ⟨rfl, hb5⟩; (try replace k6 := k6.below hb5); rw [hth]
              refine hK.out _ _ ?_ (fun hHeld => ?_)
              · exact below_then hHeld hHeld.size hb5
              clear hK K
              (try simp only [Act.put, List.setIfInBounds_toArray, List.set_cons_zero, List.set_cons_succ])
              first | (refine anyT_take 5 (some 120) (v := ?_) rfl rfl (by kernel_rfl) (by kernel_rfl) (by kernel_rfl) (by kernel_rfl) (fun _ _ _ h => h) (Or.inl ⟨by rfl, ?_⟩) hHeld ?_; rotate_left; focus (intro wq hSw; obtain ⟨hcq, hfq⟩ := bcell hSw; go_simp; (try with_reducible rfl); done))
              (try simp only [Act.put, List.setIfInBounds_toArray, List.set_cons_zero, List.set_cons_succ])
              first | (refine anyT_take 6 (some 126) (v := ?_) rfl rfl (by kernel_rfl) (by kernel_rfl) (by kernel_rfl) (by kernel_rfl) (fun _ _ _ h => h) (Or.inl ⟨by rfl, ?_⟩) hHeld ?_; rotate_left; focus (intro wq hSw; obtain ⟨hcq, hfq⟩ := bcell hSw; go_simp; (try with_reducible rfl); done))
              (try simp only [Act.put, List.setIfInBounds_toArray, List.set_cons_zero, List.set_cons_succ])
              first | (refine anyT_take 7 (some 127) (v := ?_) rfl rfl (by kernel_rfl) (by kernel_rfl) (by kernel_rfl) (by kernel_rfl) (fun _ _ _ h => h) (Or.inl ⟨by rfl, ?_⟩) hHeld ?_; rotate_left; focus (intro wq hSw; obtain ⟨hcq, hfq⟩ := bcell hSw; go_simp; (try with_reducible rfl); done))
              (try simp only [Act.put, List.setIfInBounds_toArray, List.set_cons_zero, List.set_cons_succ])
              refine anyT_one 9 (by kernel_rfl) rfl (fun K hK => ?_)
              have k6' := k6; obtain ⟨c6, f6, l6⟩ := k6
              go_simp
              obtain ⟨k9, hkb⟩ := box_store2 k6' rfl (.int .i64 lo) (.int .i64 hi); have hS9 := hHeld.trans (hkb w4.heap.size (by omega)); generalize World.setCell (World.setCell _ _ _) _ _ = W9 at *
              refine hK.out _ _ ?_ (fun hHeld => ?_)
              · exact hS9
              clear hK K
              (try simp only [Act.put, List.setIfInBounds_toArray, List.set_cons_zero, List.set_cons_succ])
              first | (refine anyT_take 10 (some 13) (v := ?_) rfl rfl (by kernel_rfl) (by kernel_rfl) (by kernel_rfl) (by kernel_rfl) (fun _ _ _ h => h) (Or.inl ⟨by rfl, ?_⟩) hHeld ?_; rotate_left; focus (intro wq hSw; obtain ⟨hcq, hfq⟩ := bcell hSw; go_simp; (try with_reducible rfl); done))
              (try simp only [Act.put, List.setIfInBounds_toArray, List.set_cons_zero, List.set_cons_succ])
              refine anyT_done (by kernel_rfl) ?_ _
              exact ⟨n6, rfl, hn6, k9, hHeld⟩
          rintro n12 w6 ⟨hn12, k12, hb⟩
          replace H2 := Lib.hid (below_then H2.out H2.out.size hb)
          replace K2 := Lib.hid (K2.out.below hb)
          clear hb c2 f2 l2
          obtain ⟨c2, f2, l2⟩ := K2.out
          obtain ⟨c12, f12, l12⟩ := k12
          have Hz : Below w6.heap.size w6 w6 := Below.refl _ _
          have hun : (decide (B.glo ≤ lo) && decide (hi ≤ B.ghi)) = false ∨ ((decide (B.glo ≤ lo) && decide (hi ≤ B.ghi)) = true ∧ ¬ B.crack ≤ lo) := by
            by_cases h1 : B.glo ≤ lo
            · by_cases h2 : hi ≤ B.ghi
              · exact .inr ⟨by simp [h1, h2], Hno.out h1 h2⟩
              · exact .inl (by simp [h2])
            · exact .inl (by simp [h1])
          clear Hno
          rcases hun with hun | ⟨hun, hcr⟩

          all_goals as_aux_lemma =>
            go_upto_region 20 with (first
              | (go_at_call 58; refine (Under_calls _ _ _ _ _).mono ?_; rintro e w' ⟨rfl, hb⟩; unfold underB; rw [hun]; obtain ⟨c2, f2, l2⟩ := BoxAt.below ⟨c2, f2, l2⟩ hb; obtain ⟨c12, f12, l12⟩ := BoxAt.below ⟨c12, f12, l12⟩ hb; have Hz := below_then Hz Hz.size hb; clear hb))
            replace H2 := Lib.hid (below_then H2.out H2.out.size Hz)
            replace K2 := Lib.hid (K2.out.below Hz)
            clear Hz c2 f2 l2 c12 f12 l12 hun

            have hth : B.thick < B.crack := Hkc.out
            obtain ⟨c2, f2, l2⟩ := K2.out
            go_wp2_with fail
            refine (works_calls _ (HM0.out.below H2.out)).mono ?_
            rintro e w12 ⟨rfl, hb⟩
            go_wp2
            go_ret
            exact ⟨rfl, below_then H2.out H2.out.size hb⟩
end
end Go.Proofs.YtgfbfbfajnfbjaaDoor
