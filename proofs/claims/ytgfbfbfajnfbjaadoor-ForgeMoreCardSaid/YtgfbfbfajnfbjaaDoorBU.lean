/- PROVED: ForgeMore (the walk): the law returns true, whatever the book, the look and the numbers. -/
import Derived.Test.YtgfbfbfajnfbjaaDoorBT
namespace Go.Proofs.YtgfbfbfajnfbjaaDoor
section
open Go.RowKit Go.Shelf
attribute [local go_sem] Oper.semAt_some
set_option linter.unusedSimpArgs false
set_option linter.unusedVariables false
set_option maxRecDepth 100000 in
set_option maxHeartbeats 8000000 in
theorem ForgeMore_calls (B : ForgeV) (ma mb mc n0 n1 n2 n3 : Int) (w : World) (hB : B.Reads w) (hM : EndsAt w) :
    Calls Tryd.prog 13 #[B.val, .agg #[.int .i64 ma, .int .i64 mb, .int .i64 mc], .agg #[.int .i64 n0, .int .i64 n1, .int .i64 n2, .int .i64 n3]] w fun e w' => e = .returned (.bool true) ∧ Below w.heap.size w w' := by
  have HB0 := Lib.hid hB
  have HM0 := Lib.hid hM
  clear hB hM
  have hcells : B.val = .agg B.cells := rfl
  rw [hcells]
  unfold ForgeV.cells
  go_enter Tryd.func13, Tryd.ntmps13
  go_upto_region 1 with fail
  have k3 := ((BoxAt.new w B.cells 28).alloc (.cells #[.int .i64 ma, .int .i64 mb, .int .i64 mc] 75)).alloc (.cells #[.int .i64 n0, .int .i64 n1, .int .i64 n2, .int .i64 n3] 64)
  have k4 := (BoxAt.new (w.alloc (.cells B.cells 28)) #[.int .i64 ma, .int .i64 mb, .int .i64 mc] 75).alloc (.cells #[.int .i64 n0, .int .i64 n1, .int .i64 n2, .int .i64 n3] 64)
  have k5 := BoxAt.new ((w.alloc (.cells B.cells 28)).alloc (.cells #[.int .i64 ma, .int .i64 mb, .int .i64 mc] 75)) #[.int .i64 n0, .int .i64 n1, .int .i64 n2, .int .i64 n3] 64
  have H1 : Below w.heap.size w (((w.alloc (.cells B.cells 28)).alloc (.cells #[.int .i64 ma, .int .i64 mb, .int .i64 mc] 75)).alloc (.cells #[.int .i64 n0, .int .i64 n1, .int .i64 n2, .int .i64 n3] 64)) := (((Below.refl _ _).alloc (Nat.le_refl _) _).alloc (by simp) _).alloc (by simp; omega) _
  unfold ForgeV.cells at k3 k4 k5 H1
  simp only [World.size_alloc] at k4 k5
  generalize World.alloc (World.alloc (World.alloc w _) _) _ = w1 at *
  have hn4 : w.heap.size < w.heap.size + 1 := Nat.lt_succ_self _
  have hn5 : w.heap.size < w.heap.size + 1 + 1 := by omega
  generalize w.heap.size + 1 + 1 = n5 at *
  generalize w.heap.size + 1 = n4 at *
  have H2 := Lib.hid H1
  have K3 := Lib.hid k3
  have K4 := Lib.hid k4
  have K5 := Lib.hid k5
  obtain ⟨c3, f3, l3⟩ := k3
  clear k4 k5 H1
  go_wp2_with fail
  refine (eq0_1 (v' := B.val) (by unfold ForgeV.val ForgeV.cells; rfl) (sound_calls B _ (HB0.out.below H2.out))).mono ?_
  rintro e w2 ⟨rfl, hb⟩
  clear c3 f3 l3
  replace K3 := Lib.hid (K3.out.below hb)
  replace K4 := Lib.hid (K4.out.below hb)
  replace K5 := Lib.hid (K5.out.below hb)
  replace H2 := Lib.hid (below_then H2.out H2.out.size hb)
  clear hb
  cases hg : goodF B with
  | false =>
    go_wp2_with fail
    refine (works_calls _ (HM0.out.below H2.out)).mono ?_
    rintro e w3 ⟨rfl, hb⟩
    go_wp2
    go_ret
    exact ⟨rfl, below_then H2.out H2.out.size hb⟩
  | true =>
    have Hg := Lib.hid ((goodF_iff B).1 hg)
    clear hg
    go_upto_region 3 with (fail)
    obtain ⟨c5, f5, l5⟩ := K5.out
    refine region_plain (S := fun w' => Below w2.heap.size w2 w') 8 (by kernel_rfl) ?_ (fun hHeld => ?_)
    · exact (Below.refl _ _).drew
    first | (refine anyT_take 0 (some 29) (v := ?_) rfl rfl (by kernel_rfl) (by kernel_rfl) (by kernel_rfl) (by kernel_rfl) (fun _ _ _ h => h) (Or.inl ⟨by rfl, ?_⟩) hHeld ?_; rotate_left; focus (intro wq hSw; obtain ⟨hcq, hfq⟩ := bcell hSw; go_simp; (try with_reducible rfl); done))
    (try simp only [Act.put, List.setIfInBounds_toArray, List.set_cons_zero, List.set_cons_succ])
    first | (refine anyT_take 1 (some 30) (v := ?_) rfl rfl (by kernel_rfl) (by kernel_rfl) (by kernel_rfl) (by kernel_rfl) (fun _ _ _ h => h) (Or.inl ⟨by rfl, ?_⟩) hHeld ?_; rotate_left; focus (intro wq hSw; obtain ⟨hcq, hfq⟩ := bcell hSw; go_simp; (try with_reducible rfl); done))
    (try simp only [Act.put, List.setIfInBounds_toArray, List.set_cons_zero, List.set_cons_succ])
    first | (refine anyT_take 3 (some 32) (v := ?_) rfl rfl (by kernel_rfl) (by kernel_rfl) (by kernel_rfl) (by kernel_rfl) (fun _ _ _ h => h) (Or.inl ⟨by rfl, ?_⟩) hHeld ?_; rotate_left; focus (intro wq hSw; obtain ⟨hcq, hfq⟩ := bcell hSw; go_simp; (try with_reducible rfl); done))
    (try simp only [Act.put, List.setIfInBounds_toArray, List.set_cons_zero, List.set_cons_succ])
    first | (refine anyT_take 4 (some 33) (v := ?_) rfl rfl (by kernel_rfl) (by kernel_rfl) (by kernel_rfl) (by kernel_rfl) (fun _ _ _ h => h) (Or.inl ⟨by rfl, ?_⟩) hHeld ?_; rotate_left; focus (intro wq hSw; obtain ⟨hcq, hfq⟩ := bcell hSw; go_simp; (try with_reducible rfl); done))
    (try simp only [Act.put, List.setIfInBounds_toArray, List.set_cons_zero, List.set_cons_succ])
    refine anyT_one 2 (by kernel_rfl) rfl (fun K hK => ?_)
    go_simp
    refine (Turn_calls _ _ _ (by decide)).mono ?_; rintro e x1 ⟨rfl, rfl⟩
    refine hK.out _ _ ?_ (fun hHeld => ?_)
    · exact hHeld
    clear hK K
    (try simp only [Act.put, List.setIfInBounds_toArray, List.set_cons_zero, List.set_cons_succ])
    refine anyT_one 5 (by kernel_rfl) rfl (fun K hK => ?_)
    go_simp
    refine (Turn_calls _ _ _ (by decide)).mono ?_; rintro e x2 ⟨rfl, rfl⟩
    refine hK.out _ _ ?_ (fun hHeld => ?_)
    · exact hHeld
    clear hK K
    (try simp only [Act.put, List.setIfInBounds_toArray, List.set_cons_zero, List.set_cons_succ])
    first | (refine anyT_take 6 (some 7) (v := ?_) rfl rfl (by kernel_rfl) (by kernel_rfl) (by kernel_rfl) (by kernel_rfl) (fun _ _ _ h => h) (Or.inl ⟨by rfl, ?_⟩) hHeld ?_; rotate_left; focus (intro wq hSw; obtain ⟨hcq, hfq⟩ := bcell hSw; go_simp; (try with_reducible rfl); done))
    (try simp only [Act.put, List.setIfInBounds_toArray, List.set_cons_zero, List.set_cons_succ])
    first | (refine anyT_take 7 (some 8) (v := ?_) rfl rfl (by kernel_rfl) (by kernel_rfl) (by kernel_rfl) (by kernel_rfl) (fun _ _ _ h => h) (Or.inl ⟨by rfl, ?_⟩) hHeld ?_; rotate_left; focus (intro wq hSw; obtain ⟨hcq, hfq⟩ := bcell hSw; go_simp; (try with_reducible rfl); done))
    (try simp only [Act.put, List.setIfInBounds_toArray, List.set_cons_zero, List.set_cons_succ])
    refine anyT_done (by kernel_rfl) ?_ _
    have hbl := turnZ_bd (n := n2) (b := 301) (by decide)
    have hwb := turnZ_bd (n := n3) (b := 3) (by decide)
    obtain ⟨who, hwho⟩ : ∃ k : Nat, turnZ n3 3 = (k : Int) := ⟨(turnZ n3 3).toNat, by omega⟩
    rw [hwho] at hwb ⊢
    clear hwho
    have hw3 : who < 3 := by omega
    generalize turnZ n2 301 = bl at *
    replace H2 := Lib.hid (below_then H2.out H2.out.size hHeld)
    replace K3 := Lib.hid (K3.out.below hHeld)
    replace K4 := Lib.hid (K4.out.below hHeld)
    replace K5 := Lib.hid (K5.out.below hHeld)
    clear c5 f5 l5 hHeld hwb
    obtain ⟨c3, f3, l3⟩ := K3.out
    go_wp2_with fail
    refine (eq0_2 (v' := B.val) (by unfold ForgeV.val ForgeV.cells; rfl) (Thick_calls B bl _ (HB0.out.below H2.out))).mono ?_
    rintro e w3 ⟨rfl, hb⟩
    replace H2 := Lib.hid (below_then H2.out H2.out.size hb)
    replace K3 := Lib.hid (K3.out.below hb)
    replace K4 := Lib.hid (K4.out.below hb)
    replace K5 := Lib.hid (K5.out.below hb)
    clear hb c3 f3 l3
    have Hbl := Lib.hid hbl
    have hsv : ∃ lo hi S ec, thickR B bl = .tuple #[.agg #[.int .i64 lo, .int .i64 hi], .int .i64 ec] ∧ (∀ e w', StrengthR B who e w' → ∃ A, e = .returned (.tuple #[.slice A S.length S.length, .int .i64 ec]) ∧ IntsAt w' A S) ∧
        ((ec = 22 ∧ canS B 0 = false) ∨ (ec = 0 ∧ canS B 0 = true ∧ lo = (betweenS B bl).1 ∧ hi = (betweenS B bl).2 ∧ S = strengthS B who)) := by
      have hin1 : inB bl 0 300 = true := inB_iff.2 (by omega)
      have hin2 : inB who 0 2 = true := inB_iff.2 (by omega)
      have ha := asked_good' Hg.out
      cases hc : canS B 0 with
      | false =>
        rw [hc] at ha
        exact ⟨0, 0, [], 22, thick_err (by rw [hin1]; exact ha) (by decide), fun e w' hs => ⟨none, strength_err hs (by rw [hin2]; exact ha) (by decide), ⟨by simp, .inl rfl⟩⟩, .inl ⟨rfl, rfl⟩⟩
      | true =>
        rw [hc] at ha
        exact ⟨_, _, _, 0, thick_at Hg.out hc (by omega), fun e w' hs => strength_ok hs (by rw [hin2]; exact ha), .inr ⟨rfl, rfl, rfl, rfl, rfl⟩⟩
    obtain ⟨lo, hi, S, ec, hth, hst, hec⟩ := hsv
    rw [hth]
    have Hec := Lib.hid hec
    have Hst := Lib.hid hst
    clear hth hbl hec hst
    go_upto_region 5 with (fail)
    have hb : Below w3.heap.size w3 (w3.alloc (.cells #[.int .i64 lo, .int .i64 hi] 24)) := (Below.refl _ _).alloc (Nat.le_refl _) _
    have k9 := BoxAt.new w3 #[.int .i64 lo, .int .i64 hi] 24
    generalize World.alloc w3 _ = w4 at *
    replace H2 := Lib.hid (below_then H2.out H2.out.size hb)
    replace K3 := Lib.hid (K3.out.below hb)
    replace K4 := Lib.hid (K4.out.below hb)
    replace K5 := Lib.hid (K5.out.below hb)
    generalize w3.heap.size = n9 at *
    clear hb
    obtain ⟨c3, f3, l3⟩ := K3.out
    go_wp2_with fail
    refine (eq0_2 (v' := B.val) (by unfold ForgeV.val ForgeV.cells; rfl) (Strength_calls B who _ (HB0.out.below H2.out))).mono ?_
    rintro e w5 ⟨hs, hb⟩
    obtain ⟨A9, rfl, hl9⟩ := Hst.out e w5 hs
    clear hs Hst
    replace H2 := Lib.hid (below_then H2.out H2.out.size hb)
    replace K3 := Lib.hid (K3.out.below hb)
    replace K4 := Lib.hid (K4.out.below hb)
    replace K5 := Lib.hid (K5.out.below hb)
    have K9 := Lib.hid (k9.below hb)
    have Hl9 := Lib.hid hl9
    clear hb c3 f3 l3 k9 hl9
    obtain ⟨c3, f3, l3⟩ := K3.out
    go_upto_region 8 with (fail)
    rcases Hec.out with ⟨rfl, hc⟩ | ⟨rfl, hc, hlo, hhi, hS⟩
    · have Hc0 := Lib.hid hc
      clear hc
      by_cases h8 : B.looks.length = 8
      · as_aux_lemma =>
          have hl0 : (0 : Int) < B.looks.length := by omega
          have hl8 : (B.looks.length : Int) = 8 := by omega
          clear h8
          go_wp2_with fail
          refine (works_calls _ (HM0.out.below H2.out)).mono ?_
          rintro e w12 ⟨rfl, hb⟩
          go_wp2
          go_ret
          exact ⟨rfl, below_then H2.out H2.out.size hb⟩
      · have hl0 : (0 : Int) < B.looks.length ∨ ¬ (0 : Int) < B.looks.length := by omega
        rcases hl0 with hl0 | hl0
        all_goals as_aux_lemma =>
            go_upto_region 19 with (fail)
            have hl0 := trivial
            generalize w5 = w6 at *
            have hl7 : B.looks.length < 8 := by have := Hg.out.looksLen; omega
            have h8b : ((B.looks.length : Int) == 8) = false := by simp; omega
            obtain ⟨c3, f3, l3⟩ := K3.out
            go_upto_region 22 with (fail)
            have hb : Below w6.heap.size w6 (w6.alloc (.cells B.cells 28)) := (Below.refl _ _).alloc (Nat.le_refl _) _
            have k20 := BoxAt.new w6 B.cells 28
            unfold ForgeV.cells at hb k20
            generalize World.alloc w6 _ = wa at *
            have hn20 := H2.out.size
            have hn21 := K9.out.lt
            have Hwa := Lib.hid hb
            have Hl9o := Lib.hid Hl9.out
            replace H2 := Lib.hid (below_then H2.out H2.out.size hb)
            replace K3 := Lib.hid (K3.out.below hb)
            replace K4 := Lib.hid (K4.out.below hb)
            replace K9 := Lib.hid (K9.out.below hb)
            replace Hl9 := Lib.hid (Hl9.out.below hb)
            generalize hne : w6.heap.size = n20 at *
            have Hne := Lib.hid hne
            have K20 := Lib.hid k20
            have h20 := k20.lt
            clear hb c3 f3 l3 k20 h8b hne
            obtain ⟨c3, f3, l3⟩ := K3.out
            obtain ⟨c4, f4, l4⟩ := K4.out
            have Hlk := Lib.hid (HB0.out.below H2.out).looks
            go_cut [6] (fun s wx => s = .bool false ∧ ∃ A c, BoxAt wx n20 (withLook B A c ⟨ma, mb, mc⟩).cells ∧ LooksAt wx A (B.looks ++ [⟨ma, mb, mc⟩]) ∧ Keep (fun q => q = n20) wa wx)
            case first =>
              as_aux_lemma =>
                refine region_plain (S := fun w' => Below wa.heap.size wa w') 8 (by kernel_rfl) ?_ (fun hHeld => ?_)
                · exact (Below.refl _ _).drew
                generalize hWd : World.drew wa = Wd at *; have hWds := hHeld.size
                first | (refine anyT_take 1 (some 125) (v := ?_) rfl rfl (by kernel_rfl) (by kernel_rfl) (by kernel_rfl) (by kernel_rfl) (fun _ _ _ h => h) (Or.inl ⟨by rfl, ?_⟩) hHeld ?_; rotate_left; focus (intro wq hSw; obtain ⟨hcq, hfq⟩ := bcell hSw; go_simp; (try with_reducible rfl); done))
                (try simp only [Act.put, List.setIfInBounds_toArray, List.set_cons_zero, List.set_cons_succ])
                first | (refine anyT_take 2 (some 126) (v := ?_) rfl rfl (by kernel_rfl) (by kernel_rfl) (by kernel_rfl) (by kernel_rfl) (fun _ _ _ h => h) (Or.inl ⟨by rfl, ?_⟩) hHeld ?_; rotate_left; focus (intro wq hSw; obtain ⟨hcq, hfq⟩ := bcell hSw; go_simp; (try with_reducible rfl); done))
                (try simp only [Act.put, List.setIfInBounds_toArray, List.set_cons_zero, List.set_cons_succ])
                first | (refine anyT_take 4 (some 128) (v := ?_) rfl rfl (by kernel_rfl) (by kernel_rfl) (by kernel_rfl) (by kernel_rfl) (fun _ _ _ h => h) (Or.inl ⟨by rfl, ?_⟩) hHeld ?_; rotate_left; focus (intro wq hSw; obtain ⟨hcq, hfq⟩ := bcell hSw; go_simp; (try with_reducible rfl); done))
                (try simp only [Act.put, List.setIfInBounds_toArray, List.set_cons_zero, List.set_cons_succ])
                refine anyT_two 0 5 (by kernel_rfl) rfl rfl (fun K hK => ?_) (fun K hK => ?_)
                · go_simp
                  refine hK.out _ _ ?_ (fun hHeld => ?_)
                  · exact hHeld.alloc hHeld.size _
                  clear hK K
                  (try simp only [Act.put, List.setIfInBounds_toArray, List.set_cons_zero, List.set_cons_succ])
                  refine anyT_two 3 5 (by kernel_rfl) rfl rfl (fun K hK => ?_) (fun K hK => ?_)
                  · rw [if_pos (by rfl)]; refine wp_appLooks _ _ _ rfl wa.heap.size (.slice (some ⟨_, 0, none⟩) 0 0) [] rfl (by first | exact OwnLooks.lit Wd _ hWds | exact (OwnLooks.lit Wd _ hWds).alloc _ | (have h := OwnLooks.lit (World.alloc Wd (.cells #[.int .i64 ma, .int .i64 mb, .int .i64 mc] 75)) wa.heap.size (by rw [World.size_alloc]; omega); rw [World.size_alloc] at h; exact h)) B.kA B.kCap B.looks rfl (Hlk.out.below hHeld) (by simp; omega) hHeld.size ?_; rintro v5 w5' ho5 hb5 hk5; have hb5' := hHeld.trans hb5; have ho5 : OwnLooks w5' wa.heap.size v5 B.looks := ho5
                    go_simp
                    refine hK.out _ _ ?_ (fun hHeld => ?_)
                    · exact hb5'
                    clear hK K
                    (try simp only [Act.put, List.setIfInBounds_toArray, List.set_cons_zero, List.set_cons_succ])
                    refine anyT_one 5 (by kernel_rfl) rfl (fun K hK => ?_)
                    go_simp
                    refine hK.out _ _ ?_ (fun hHeld => ?_)
                    · exact hHeld.alloc hHeld.size _
                    clear hK K
                    (try simp only [Act.put, List.setIfInBounds_toArray, List.set_cons_zero, List.set_cons_succ])
                    refine anyT_one 6 (by kernel_rfl) rfl (fun K hK => ?_)
                    rw [if_pos (by rfl)]; refine wp_appLooks _ _ _ rfl wa.heap.size _ B.looks rfl (by first | exact ho5.alloc _ | exact ho5) (some ⟨_, 0, none⟩) 1 [⟨ma, mb, mc⟩] rfl (LooksAt.of1 (by first | exact BoxAt.new _ _ _ | (have h := BoxAt.new (World.alloc Wd (.cells #[] 75)) #[.int .i64 ma, .int .i64 mb, .int .i64 mc] 75; rw [World.size_alloc] at h; exact h.keep hk5 (by simp [Value.ownBlock])) | exact ((BoxAt.new Wd _ _).alloc _).keep hk5 (by simp [Value.ownBlock]))) (by simp; omega) hHeld.size ?_; rintro v8 w8 ho8 hb8 _; have hb8' := hHeld.trans hb8; obtain ⟨A8, c8, rfl, hl8, hg8⟩ := ho8.reads (by simp; omega)
                    go_simp
                    refine hK.out _ _ ?_ (fun hHeld => ?_)
                    · exact hb8'
                    clear hK K
                    (try simp only [Act.put, List.setIfInBounds_toArray, List.set_cons_zero, List.set_cons_succ])
                    first | (refine anyT_take 7 (some 131) (v := ?_) rfl rfl (by kernel_rfl) (by kernel_rfl) (by kernel_rfl) (by kernel_rfl) (fun _ _ _ h => h) (Or.inl ⟨by rfl, ?_⟩) hHeld ?_; rotate_left; focus (intro wq hSw; obtain ⟨hcq, hfq⟩ := bcell hSw; go_simp; (try with_reducible rfl); done))
                    (try simp only [Act.put, List.setIfInBounds_toArray, List.set_cons_zero, List.set_cons_succ])
                    refine anyT_last (by kernel_rfl) rfl (fun K hK => ?_)
                    obtain ⟨c20, f20, l20⟩ := K20.out.below hHeld
                    go_simp
                    refine hK.out _ _ ?_
                    clear hK K
                    (try simp only [Act.put, List.setIfInBounds_toArray, List.set_cons_zero, List.set_cons_succ])
                    refine anyT_done (by kernel_rfl) ?_ _
                    go_wp2; go_meet; exact ⟨rfl, A8, c8, by rw [withLook_cells]; exact (K20.out.below hHeld).put 13 (.slice A8 (B.looks.length + 1) c8) (by simp), hl8.keep (Keep.setCell (M := fun q => q = n20) (Keep.refl _ _) (p := ⟨n20, 13, none⟩) (.inl rfl) _) (fun b o e => by have := hg8 b o e; omega), Keep.setCell (M := fun q => q = n20) (Keep.of_below hHeld) (p := ⟨n20, 13, none⟩) (.inl rfl) _⟩
                  · go_simp
                    refine hK.out _ _ ?_ (fun hHeld => ?_)
                    · exact hHeld.alloc hHeld.size _
                    clear hK K
                    (try simp only [Act.put, List.setIfInBounds_toArray, List.set_cons_zero, List.set_cons_succ])
                    refine anyT_one 3 (by kernel_rfl) rfl (fun K hK => ?_)
                    rw [if_pos (by rfl)]; refine wp_appLooks _ _ _ rfl wa.heap.size (.slice (some ⟨_, 0, none⟩) 0 0) [] rfl (by first | exact OwnLooks.lit Wd _ hWds | exact (OwnLooks.lit Wd _ hWds).alloc _ | (have h := OwnLooks.lit (World.alloc Wd (.cells #[.int .i64 ma, .int .i64 mb, .int .i64 mc] 75)) wa.heap.size (by rw [World.size_alloc]; omega); rw [World.size_alloc] at h; exact h)) B.kA B.kCap B.looks rfl (Hlk.out.below hHeld) (by simp; omega) hHeld.size ?_; rintro v5 w5' ho5 hb5 hk5; have hb5' := hHeld.trans hb5; have ho5 : OwnLooks w5' wa.heap.size v5 B.looks := ho5
                    go_simp
                    refine hK.out _ _ ?_ (fun hHeld => ?_)
                    · exact hb5'
                    clear hK K
                    (try simp only [Act.put, List.setIfInBounds_toArray, List.set_cons_zero, List.set_cons_succ])
                    refine anyT_one 6 (by kernel_rfl) rfl (fun K hK => ?_)
                    rw [if_pos (by rfl)]; refine wp_appLooks _ _ _ rfl wa.heap.size _ B.looks rfl (by first | exact ho5.alloc _ | exact ho5) (some ⟨_, 0, none⟩) 1 [⟨ma, mb, mc⟩] rfl (LooksAt.of1 (by first | exact BoxAt.new _ _ _ | (have h := BoxAt.new (World.alloc Wd (.cells #[] 75)) #[.int .i64 ma, .int .i64 mb, .int .i64 mc] 75; rw [World.size_alloc] at h; exact h.keep hk5 (by simp [Value.ownBlock])) | exact ((BoxAt.new Wd _ _).alloc _).keep hk5 (by simp [Value.ownBlock]))) (by simp; omega) hHeld.size ?_; rintro v8 w8 ho8 hb8 _; have hb8' := hHeld.trans hb8; obtain ⟨A8, c8, rfl, hl8, hg8⟩ := ho8.reads (by simp; omega)
                    go_simp
                    refine hK.out _ _ ?_ (fun hHeld => ?_)
                    · exact hb8'
                    clear hK K
                    (try simp only [Act.put, List.setIfInBounds_toArray, List.set_cons_zero, List.set_cons_succ])
                    first | (refine anyT_take 7 (some 131) (v := ?_) rfl rfl (by kernel_rfl) (by kernel_rfl) (by kernel_rfl) (by kernel_rfl) (fun _ _ _ h => h) (Or.inl ⟨by rfl, ?_⟩) hHeld ?_; rotate_left; focus (intro wq hSw; obtain ⟨hcq, hfq⟩ := bcell hSw; go_simp; (try with_reducible rfl); done))
                    (try simp only [Act.put, List.setIfInBounds_toArray, List.set_cons_zero, List.set_cons_succ])
                    refine anyT_last (by kernel_rfl) rfl (fun K hK => ?_)
                    obtain ⟨c20, f20, l20⟩ := K20.out.below hHeld
                    go_simp
                    refine hK.out _ _ ?_
                    clear hK K
                    (try simp only [Act.put, List.setIfInBounds_toArray, List.set_cons_zero, List.set_cons_succ])
                    refine anyT_done (by kernel_rfl) ?_ _
                    go_wp2; go_meet; exact ⟨rfl, A8, c8, by rw [withLook_cells]; exact (K20.out.below hHeld).put 13 (.slice A8 (B.looks.length + 1) c8) (by simp), hl8.keep (Keep.setCell (M := fun q => q = n20) (Keep.refl _ _) (p := ⟨n20, 13, none⟩) (.inl rfl) _) (fun b o e => by have := hg8 b o e; omega), Keep.setCell (M := fun q => q = n20) (Keep.of_below hHeld) (p := ⟨n20, 13, none⟩) (.inl rfl) _⟩
                · go_simp
                  refine hK.out _ _ ?_ (fun hHeld => ?_)
                  · exact hHeld.alloc hHeld.size _
                  clear hK K
                  (try simp only [Act.put, List.setIfInBounds_toArray, List.set_cons_zero, List.set_cons_succ])
                  refine anyT_one 0 (by kernel_rfl) rfl (fun K hK => ?_)
                  go_simp
                  refine hK.out _ _ ?_ (fun hHeld => ?_)
                  · exact hHeld.alloc hHeld.size _
                  clear hK K
                  (try simp only [Act.put, List.setIfInBounds_toArray, List.set_cons_zero, List.set_cons_succ])
                  refine anyT_one 3 (by kernel_rfl) rfl (fun K hK => ?_)
                  rw [if_pos (by rfl)]; refine wp_appLooks _ _ _ rfl wa.heap.size (.slice (some ⟨_, 0, none⟩) 0 0) [] rfl (by first | exact OwnLooks.lit Wd _ hWds | exact (OwnLooks.lit Wd _ hWds).alloc _ | (have h := OwnLooks.lit (World.alloc Wd (.cells #[.int .i64 ma, .int .i64 mb, .int .i64 mc] 75)) wa.heap.size (by rw [World.size_alloc]; omega); rw [World.size_alloc] at h; exact h)) B.kA B.kCap B.looks rfl (Hlk.out.below hHeld) (by simp; omega) hHeld.size ?_; rintro v5 w5' ho5 hb5 hk5; have hb5' := hHeld.trans hb5; have ho5 : OwnLooks w5' wa.heap.size v5 B.looks := ho5
                  go_simp
                  refine hK.out _ _ ?_ (fun hHeld => ?_)
                  · exact hb5'
                  clear hK K
                  (try simp only [Act.put, List.setIfInBounds_toArray, List.set_cons_zero, List.set_cons_succ])
                  refine anyT_one 6 (by kernel_rfl) rfl (fun K hK => ?_)
                  rw [if_pos (by rfl)]; refine wp_appLooks _ _ _ rfl wa.heap.size _ B.looks rfl (by first | exact ho5.alloc _ | exact ho5) (some ⟨_, 0, none⟩) 1 [⟨ma, mb, mc⟩] rfl (LooksAt.of1 (by first | exact BoxAt.new _ _ _ | (have h := BoxAt.new (World.alloc Wd (.cells #[] 75)) #[.int .i64 ma, .int .i64 mb, .int .i64 mc] 75; rw [World.size_alloc] at h; exact h.keep hk5 (by simp [Value.ownBlock])) | exact ((BoxAt.new Wd _ _).alloc _).keep hk5 (by simp [Value.ownBlock]))) (by simp; omega) hHeld.size ?_; rintro v8 w8 ho8 hb8 _; have hb8' := hHeld.trans hb8; obtain ⟨A8, c8, rfl, hl8, hg8⟩ := ho8.reads (by simp; omega)
                  go_simp
                  refine hK.out _ _ ?_ (fun hHeld => ?_)
                  · exact hb8'
                  clear hK K
                  (try simp only [Act.put, List.setIfInBounds_toArray, List.set_cons_zero, List.set_cons_succ])
                  first | (refine anyT_take 7 (some 131) (v := ?_) rfl rfl (by kernel_rfl) (by kernel_rfl) (by kernel_rfl) (by kernel_rfl) (fun _ _ _ h => h) (Or.inl ⟨by rfl, ?_⟩) hHeld ?_; rotate_left; focus (intro wq hSw; obtain ⟨hcq, hfq⟩ := bcell hSw; go_simp; (try with_reducible rfl); done))
                  (try simp only [Act.put, List.setIfInBounds_toArray, List.set_cons_zero, List.set_cons_succ])
                  refine anyT_last (by kernel_rfl) rfl (fun K hK => ?_)
                  obtain ⟨c20, f20, l20⟩ := K20.out.below hHeld
                  go_simp
                  refine hK.out _ _ ?_
                  clear hK K
                  (try simp only [Act.put, List.setIfInBounds_toArray, List.set_cons_zero, List.set_cons_succ])
                  refine anyT_done (by kernel_rfl) ?_ _
                  go_wp2; go_meet; exact ⟨rfl, A8, c8, by rw [withLook_cells]; exact (K20.out.below hHeld).put 13 (.slice A8 (B.looks.length + 1) c8) (by simp), hl8.keep (Keep.setCell (M := fun q => q = n20) (Keep.refl _ _) (p := ⟨n20, 13, none⟩) (.inl rfl) _) (fun b o e => by have := hg8 b o e; omega), Keep.setCell (M := fun q => q = n20) (Keep.of_below hHeld) (p := ⟨n20, 13, none⟩) (.inl rfl) _⟩
            case rest =>
              obtain ⟨rfl, A8, c8, k20, hl8, hkx⟩ := hcut
              as_aux_lemma =>
                have H2x := Lib.hid (H2.out.trans (hkx.below (n := w.heap.size) (fun q _ e => by omega) H2.out.size))
                have hX : (withLook B A8 c8 ⟨ma, mb, mc⟩).Reads wc := by
                  have h := HB0.out.below H2x.out
                  exact ⟨h.lots, h.thins, hl8⟩
                have HX := Lib.hid hX
                have K9x := Lib.hid (K9.out.keep hkx (by omega))
                have hq : Below w6.heap.size w6 wc := by rw [Hne.out]; exact Hwa.out.trans (hkx.below (n := n20) (fun q _ e => by omega) (by omega))
                have Hl9x := Lib.hid (Hl9o.out.below hq)
                have h3 := asked_three (withLook B A8 c8 ⟨ma, mb, mc⟩) (n := bl) (s := who) (by have := Hbl.out; omega) (by omega)
                have H3 := Lib.hid h3
                rw [withLook_cells] at k20
                have K20 := Lib.hid k20
                clear hX hkx hl8 h3 k20 c3 f3 l3 c4 f4 l4 hq
                obtain ⟨c20, f20, l20⟩ := K20.out
                rcases H3.out with ⟨ee, hee, ha1, ha2⟩ | ⟨gX, hcX, ha1, ha2⟩
                · as_aux_lemma =>
                    have hee0 : ee ≠ 0 := by omega
                    have Hee := Lib.hid hee
                    clear hee
                    go_wp2_with fail
                    refine (eq0_2 (v' := (withLook B A8 c8 ⟨ma, mb, mc⟩).val) (by unfold ForgeV.val; rw [withLook_cells]) (Thick_calls (withLook B A8 c8 ⟨ma, mb, mc⟩) bl _ HX.out)).mono ?_
                    rintro e w10 ⟨rfl, hb⟩
                    rw [thick_err ha1 hee0]
                    replace HX := Lib.hid (HX.out.below hb)
                    replace H2x := Lib.hid (below_then H2x.out H2x.out.size hb)
                    replace K20 := Lib.hid (K20.out.below hb)
                    clear hb c20 f20 l20
                    have Ha2 := Lib.hid ha2
                    clear ha1 ha2
                    go_upto_region 24 with (fail)
                    have hb : Below w10.heap.size w10 (w10.alloc (.cells #[.int .i64 0, .int .i64 0] 24)) := (Below.refl _ _).alloc (Nat.le_refl _) _
                    have k21 := BoxAt.new w10 #[.int .i64 0, .int .i64 0] 24
                    generalize World.alloc w10 _ = w11 at *
                    replace HX := Lib.hid (HX.out.below hb)
                    replace H2x := Lib.hid (below_then H2x.out H2x.out.size hb)
                    replace K20 := Lib.hid (K20.out.below hb)
                    generalize w10.heap.size = n21 at *
                    clear hb
                    obtain ⟨c20, f20, l20⟩ := K20.out
                    go_wp2_with fail
                    refine (eq0_2 (v' := (withLook B A8 c8 ⟨ma, mb, mc⟩).val) (by unfold ForgeV.val; rw [withLook_cells]) (Strength_calls (withLook B A8 c8 ⟨ma, mb, mc⟩) who _ HX.out)).mono ?_
                    rintro e w12 ⟨hs, hb⟩
                    obtain rfl := strength_err hs Ha2.out hee0
                    replace H2x := Lib.hid (below_then H2x.out H2x.out.size hb)
                    have K21 := Lib.hid (k21.below hb)
                    clear hb hs c20 f20 l20 k21
                    obtain ⟨c21, f21, l21⟩ := K21.out
                    clear hee0
                    rcases Hee.out with rfl | rfl
                    all_goals
                      go_upto_region 28 with (fail)
                      refine region_plain (S := fun w' => Below w12.heap.size w12 w') 20 (by kernel_rfl) ?_ (fun hHeld => ?_)
                      · exact (Below.refl _ _).drew
                      first | (refine anyT_take 0 (some 149) (v := ?_) rfl rfl (by kernel_rfl) (by kernel_rfl) (by kernel_rfl) (by kernel_rfl) (fun _ _ _ h => h) (Or.inl ⟨by rfl, ?_⟩) hHeld ?_; rotate_left; focus (intro wq hSw; obtain ⟨hcq, hfq⟩ := bcell hSw; go_simp; (try with_reducible rfl); done))
                      (try simp only [Act.put, List.setIfInBounds_toArray, List.set_cons_zero, List.set_cons_succ])
                      first | (refine anyT_take 1 (some 150) (v := ?_) rfl rfl (by kernel_rfl) (by kernel_rfl) (by kernel_rfl) (by kernel_rfl) (fun _ _ _ h => h) (Or.inl ⟨by rfl, ?_⟩) hHeld ?_; rotate_left; focus (intro wq hSw; obtain ⟨hcq, hfq⟩ := bcell hSw; go_simp; (try with_reducible rfl); done))
                      (try simp only [Act.put, List.setIfInBounds_toArray, List.set_cons_zero, List.set_cons_succ])
                      first | (refine anyT_take 2 (some 151) (v := ?_) rfl rfl (by kernel_rfl) (by kernel_rfl) (by kernel_rfl) (by kernel_rfl) (fun _ _ _ h => h) (Or.inl ⟨by rfl, ?_⟩) hHeld ?_; rotate_left; focus (intro wq hSw; obtain ⟨hcq, hfq⟩ := bcell hSw; go_simp; (try with_reducible rfl); done))
                      (try simp only [Act.put, List.setIfInBounds_toArray, List.set_cons_zero, List.set_cons_succ])
                      first | (refine anyT_take 3 (some 152) rfl rfl (by kernel_rfl) (by kernel_rfl) (by kernel_rfl) (by kernel_rfl) (fun _ _ _ h => h) (Or.inr ⟨by rfl, rfl⟩) hHeld ?_) | (refine anyT_take 3 (some 152) (v := ?_) rfl rfl (by kernel_rfl) (by kernel_rfl) (by kernel_rfl) (by kernel_rfl) (fun _ _ _ h => h) (Or.inl ⟨by rfl, ?_⟩) hHeld ?_; rotate_left; focus (intro wq hSw; obtain ⟨hcq, hfq⟩ := bcell hSw; go_simp; (try with_reducible rfl); done))
                      (try simp only [Act.put, List.setIfInBounds_toArray, List.set_cons_zero, List.set_cons_succ])
                      first | (refine anyT_take 4 (some 153) rfl rfl (by kernel_rfl) (by kernel_rfl) (by kernel_rfl) (by kernel_rfl) (fun _ _ _ h => h) (Or.inr ⟨by rfl, rfl⟩) hHeld ?_) | (refine anyT_take 4 (some 153) (v := ?_) rfl rfl (by kernel_rfl) (by kernel_rfl) (by kernel_rfl) (by kernel_rfl) (fun _ _ _ h => h) (Or.inl ⟨by rfl, ?_⟩) hHeld ?_; rotate_left; focus (intro wq hSw; obtain ⟨hcq, hfq⟩ := bcell hSw; go_simp; (try with_reducible rfl); done))
                      (try simp only [Act.put, List.setIfInBounds_toArray, List.set_cons_zero, List.set_cons_succ])
                      first | (refine anyT_take 5 (some 154) (v := ?_) rfl rfl (by kernel_rfl) (by kernel_rfl) (by kernel_rfl) (by kernel_rfl) (fun _ _ _ h => h) (Or.inl ⟨by rfl, ?_⟩) hHeld ?_; rotate_left; focus (intro wq hSw; obtain ⟨hcq, hfq⟩ := bcell hSw; go_simp; (try with_reducible rfl); done))
                      (try simp only [Act.put, List.setIfInBounds_toArray, List.set_cons_zero, List.set_cons_succ])
                      first | (refine anyT_take 6 (some 155) (v := ?_) rfl rfl (by kernel_rfl) (by kernel_rfl) (by kernel_rfl) (by kernel_rfl) (fun _ _ _ h => h) (Or.inl ⟨by rfl, ?_⟩) hHeld ?_; rotate_left; focus (intro wq hSw; obtain ⟨hcq, hfq⟩ := bcell hSw; go_simp; (try with_reducible rfl); done))
                      (try simp only [Act.put, List.setIfInBounds_toArray, List.set_cons_zero, List.set_cons_succ])
                      first | (refine anyT_take 7 (some 156) rfl rfl (by kernel_rfl) (by kernel_rfl) (by kernel_rfl) (by kernel_rfl) (fun _ _ _ h => h) (Or.inr ⟨by rfl, rfl⟩) hHeld ?_) | (refine anyT_take 7 (some 156) (v := ?_) rfl rfl (by kernel_rfl) (by kernel_rfl) (by kernel_rfl) (by kernel_rfl) (fun _ _ _ h => h) (Or.inl ⟨by rfl, ?_⟩) hHeld ?_; rotate_left; focus (intro wq hSw; obtain ⟨hcq, hfq⟩ := bcell hSw; go_simp; (try with_reducible rfl); done))
                      (try simp only [Act.put, List.setIfInBounds_toArray, List.set_cons_zero, List.set_cons_succ])
                      refine anyT_one 8 (by kernel_rfl) rfl (fun K hK => ?_)
                      go_simp
                      refine (Band_calls _ _ _).mono ?_; rintro e x1 ⟨rfl, hb1⟩
                      refine hK.out _ _ ?_ (fun hHeld => ?_)
                      · exact below_then hHeld hHeld.size hb1
                      clear hK K
                      (try simp only [Act.put, List.setIfInBounds_toArray, List.set_cons_zero, List.set_cons_succ])
                      first | (refine anyT_take 9 (some 158) rfl rfl (by kernel_rfl) (by kernel_rfl) (by kernel_rfl) (by kernel_rfl) (fun _ _ _ h => h) (Or.inr ⟨by rfl, rfl⟩) hHeld ?_) | (refine anyT_take 9 (some 158) (v := ?_) rfl rfl (by kernel_rfl) (by kernel_rfl) (by kernel_rfl) (by kernel_rfl) (fun _ _ _ h => h) (Or.inl ⟨by rfl, ?_⟩) hHeld ?_; rotate_left; focus (intro wq hSw; obtain ⟨hcq, hfq⟩ := bcell hSw; go_simp; (try with_reducible rfl); done))
                      (try simp only [Act.put, List.setIfInBounds_toArray, List.set_cons_zero, List.set_cons_succ])
                      first | (refine anyT_take 10 (some 159) (v := ?_) rfl rfl (by kernel_rfl) (by kernel_rfl) (by kernel_rfl) (by kernel_rfl) (fun _ _ _ h => h) (Or.inl ⟨by rfl, ?_⟩) hHeld ?_; rotate_left; focus (intro wq hSw; obtain ⟨hcq, hfq⟩ := bcell hSw; go_simp; (try with_reducible rfl); done))
                      (try simp only [Act.put, List.setIfInBounds_toArray, List.set_cons_zero, List.set_cons_succ])
                      first | (refine anyT_take 11 (some 160) (v := ?_) rfl rfl (by kernel_rfl) (by kernel_rfl) (by kernel_rfl) (by kernel_rfl) (fun _ _ _ h => h) (Or.inl ⟨by rfl, ?_⟩) hHeld ?_; rotate_left; focus (intro wq hSw; obtain ⟨hcq, hfq⟩ := bcell hSw; go_simp; (try with_reducible rfl); done))
                      (try simp only [Act.put, List.setIfInBounds_toArray, List.set_cons_zero, List.set_cons_succ])
                      first | (refine anyT_take 12 (some 161) rfl rfl (by kernel_rfl) (by kernel_rfl) (by kernel_rfl) (by kernel_rfl) (fun _ _ _ h => h) (Or.inr ⟨by rfl, rfl⟩) hHeld ?_) | (refine anyT_take 12 (some 161) (v := ?_) rfl rfl (by kernel_rfl) (by kernel_rfl) (by kernel_rfl) (by kernel_rfl) (fun _ _ _ h => h) (Or.inl ⟨by rfl, ?_⟩) hHeld ?_; rotate_left; focus (intro wq hSw; obtain ⟨hcq, hfq⟩ := bcell hSw; go_simp; (try with_reducible rfl); done))
                      (try simp only [Act.put, List.setIfInBounds_toArray, List.set_cons_zero, List.set_cons_succ])
                      first | (refine anyT_take 13 (some 162) rfl rfl (by kernel_rfl) (by kernel_rfl) (by kernel_rfl) (by kernel_rfl) (fun _ _ _ h => h) (Or.inr ⟨by rfl, rfl⟩) hHeld ?_) | (refine anyT_take 13 (some 162) (v := ?_) rfl rfl (by kernel_rfl) (by kernel_rfl) (by kernel_rfl) (by kernel_rfl) (fun _ _ _ h => h) (Or.inl ⟨by rfl, ?_⟩) hHeld ?_; rotate_left; focus (intro wq hSw; obtain ⟨hcq, hfq⟩ := bcell hSw; go_simp; (try with_reducible rfl); done))
                      (try simp only [Act.put, List.setIfInBounds_toArray, List.set_cons_zero, List.set_cons_succ])
                      first | (refine anyT_take 14 (some 163) rfl rfl (by kernel_rfl) (by kernel_rfl) (by kernel_rfl) (by kernel_rfl) (fun _ _ _ h => h) (Or.inr ⟨by rfl, rfl⟩) hHeld ?_) | (refine anyT_take 14 (some 163) (v := ?_) rfl rfl (by kernel_rfl) (by kernel_rfl) (by kernel_rfl) (by kernel_rfl) (fun _ _ _ h => h) (Or.inl ⟨by rfl, ?_⟩) hHeld ?_; rotate_left; focus (intro wq hSw; obtain ⟨hcq, hfq⟩ := bcell hSw; go_simp; (try with_reducible rfl); done))
                      (try simp only [Act.put, List.setIfInBounds_toArray, List.set_cons_zero, List.set_cons_succ])
                      first | (refine anyT_take 15 (some 164) (v := ?_) rfl rfl (by kernel_rfl) (by kernel_rfl) (by kernel_rfl) (by kernel_rfl) (fun _ _ _ h => h) (Or.inl ⟨by rfl, ?_⟩) hHeld ?_; rotate_left; focus (intro wq hSw; obtain ⟨hcq, hfq⟩ := bcell hSw; go_simp; (try with_reducible rfl); done))
                      (try simp only [Act.put, List.setIfInBounds_toArray, List.set_cons_zero, List.set_cons_succ])
                      first | (refine anyT_take 16 (some 165) (v := ?_) rfl rfl (by kernel_rfl) (by kernel_rfl) (by kernel_rfl) (by kernel_rfl) (fun _ _ _ h => h) (Or.inl ⟨by rfl, ?_⟩) hHeld ?_; rotate_left; focus (intro wq hSw; obtain ⟨hcq, hfq⟩ := bcell hSw; go_simp; (try with_reducible rfl); done))
                      (try simp only [Act.put, List.setIfInBounds_toArray, List.set_cons_zero, List.set_cons_succ])
                      refine anyT_one 17 (by kernel_rfl) rfl (fun K hK => ?_)
                      go_simp
                      refine (works_calls _ (HM0.out.below (below_then H2x.out H2x.out.size hHeld))).mono ?_; rintro e x2 ⟨rfl, hb2⟩
                      refine hK.out _ _ ?_ (fun hHeld => ?_)
                      · exact below_then hHeld hHeld.size hb2
                      clear hK K
                      (try simp only [Act.put, List.setIfInBounds_toArray, List.set_cons_zero, List.set_cons_succ])
                      first | (refine anyT_take 18 (some 167) (v := ?_) rfl rfl (by kernel_rfl) (by kernel_rfl) (by kernel_rfl) (by kernel_rfl) (fun _ _ _ h => h) (Or.inl ⟨by rfl, ?_⟩) hHeld ?_; rotate_left; focus (intro wq hSw; obtain ⟨hcq, hfq⟩ := bcell hSw; go_simp; (try with_reducible rfl); done))
                      (try simp only [Act.put, List.setIfInBounds_toArray, List.set_cons_zero, List.set_cons_succ])
                      first | (refine anyT_take 19 (some 6) (v := ?_) rfl rfl (by kernel_rfl) (by kernel_rfl) (by kernel_rfl) (by kernel_rfl) (fun _ _ _ h => h) (Or.inl ⟨by rfl, ?_⟩) hHeld ?_; rotate_left; focus (intro wq hSw; obtain ⟨hcq, hfq⟩ := bcell hSw; go_simp; (try with_reducible rfl); done))
                      (try simp only [Act.put, List.setIfInBounds_toArray, List.set_cons_zero, List.set_cons_succ])
                      refine anyT_done (by kernel_rfl) ?_ _
                      go_wp2
                      go_ret
                      exact ⟨rfl, below_then H2x.out H2x.out.size hHeld⟩

                · exact absurd ((wider_withLook B A8 c8 ⟨ma, mb, mc⟩).can hcX) (by rw [Hc0.out]; simp)
    · have Hc0 := Lib.hid hc
      have Hlo := Lib.hid hlo
      have Hhi := Lib.hid hhi
      have HS := Lib.hid hS
      clear hc hlo hhi hS
      by_cases hl0 : 0 < B.looks.length
      · as_aux_lemma =>
          have hl0i : (0 : Int) < B.looks.length := by omega
          obtain ⟨kb, ko, hkA⟩ := HB0.out.looks.some_ hl0
          have hlks := HB0.out.looks
          rw [hkA] at hlks
          have HkA := Lib.hid hkA
          have k3x := K3.out
          rw [hkA] at k3x
          have K3k := Lib.hid k3x
          clear c3 f3 l3 hkA k3x
          obtain ⟨c3, f3, l3⟩ := K3k.out
          go_upto_region 10 with (fail)
          rw [HkA.out]
          have hb : Below w5.heap.size w5 (w5.alloc (.cells B.cells 28)) := (Below.refl _ _).alloc (Nat.le_refl _) _
          have k13 := BoxAt.new w5 B.cells 28
          unfold ForgeV.cells at hb k13
          rw [HkA.out] at hb k13
          generalize World.alloc w5 _ = wa at *
          have hn13 := H2.out.size
          have Hwa := Lib.hid hb
          have HBx := Lib.hid (below_then H2.out H2.out.size hb)
          have K3a := Lib.hid (K3k.out.below hb)
          have K5a := Lib.hid (K5.out.below hb)
          have K9a := Lib.hid (K9.out.below hb)
          have hn9 := K9.out.lt
          have hn5b := K5.out.lt
          have hn3b := K3.out.lt
          generalize hne : w5.heap.size = n13 at *
          have Hne := Lib.hid hne
          have K13 := Lib.hid k13
          have h13 := k13.lt
          clear hb c3 f3 l3 k13 hne
          obtain ⟨c3, f3, l3⟩ := K3a.out
          have hb1 : Below wa.heap.size wa (wa.alloc (.cells #[] 75)) := (Below.refl _ _).alloc (Nat.le_refl _) _
          have hlk1 := (hlks.below HBx.out).below hb1
          go_wp2_with (at_builtin; refine wpList_copyLooks _ rfl _ _ rfl wa rfl rfl (some ⟨kb, ko, none⟩) B.kCap B.looks rfl hlk1 hl0 (by have := Hg.out.looksLen; omega) ?_)
          rintro g c8 cur w8 kg hlk8 hgb hb8
          have k13 := K13.out.below hb8
          have h9 := hb8.size
          clear hb1 hlk1 c3 f3 l3
          obtain ⟨c13, f13, l13⟩ := k13
          go_upto_region 11 with (fail)
          have hk3 : Keep (fun q => q = n13) w8 (w8.setCell ⟨n13, 13, none⟩ (.slice (some ⟨g, 0, none⟩) B.looks.length c8)) := Keep.setCell (M := fun q => q = n13) (Keep.refl _ _) (p := ⟨n13, 13, none⟩) (.inl rfl) _
          have hlo1 : Below n13 wa (w8.setCell ⟨n13, 13, none⟩ (.slice (some ⟨g, 0, none⟩) B.looks.length c8)) := (hb8.mono (by omega)).trans (hk3.below (n := n13) (fun q _ e => by omega) (by omega))
          have K3b := Lib.hid ((K3a.out.below hb8).keep hk3 (by omega))
          have K5b := Lib.hid ((K5a.out.below hb8).keep hk3 (by omega))
          have K9b := Lib.hid ((K9a.out.below hb8).keep hk3 (by omega))
          have k13 : BoxAt (w8.setCell ⟨n13, 13, none⟩ (.slice (some ⟨g, 0, none⟩) B.looks.length c8)) n13 #[.slice B.lA B.lots.length B.lCap, .int .i64 B.tlo, .int .i64 B.thi, .int .i64 B.thick, .int .i64 B.crack, .int .i64 B.glo, .int .i64 B.ghi, .slice B.sA B.thins.length B.sCap, .int .i64 B.hot, .int .i64 B.least, .int .i64 B.clo, .int .i64 B.chi, .int .i64 B.coal, .slice (some ⟨g, 0, none⟩) B.looks.length c8] := (K13.out.below hb8).put 13 (.slice (some ⟨g, 0, none⟩) B.looks.length c8) (by simp)
          have K13b := Lib.hid k13
          have Kg := Lib.hid (kg.keep hk3 (by omega))
          have Hlkg := Lib.hid (hlk8.keep hk3 (fun b o e => by cases e; omega))
          have Hlo1 := Lib.hid hlo1
          clear hk3 hlo1 k13 kg hlk8 hb8 c13 f13 l13
          have hs8 : w8.heap.size = (World.setCell w8 ⟨n13, 13, none⟩ (.slice (some ⟨g, 0, none⟩) B.looks.length c8)).heap.size := by simp [World.setCell]
          have Hs8 := Lib.hid hs8
          clear hs8
          generalize World.setCell w8 _ _ = w9 at *
          obtain ⟨c3, f3, l3⟩ := K3b.out
          obtain ⟨c5, f5, l5⟩ := K5b.out
          go_wp2_with fail
          refine (Turn_calls _ _ _ (by have := Hg.out.looksLen; omega)).mono ?_
          rintro e x9 ⟨rfl, rfl⟩
          have htk := turnZ_bd (n := n0) (b := B.looks.length) (by omega)
          obtain ⟨k, hk⟩ : ∃ k : Nat, turnZ n0 B.looks.length = (k : Int) := ⟨(turnZ n0 B.looks.length).toNat, by omega⟩
          rw [hk] at htk ⊢
          have hkl : k < B.looks.length := by omega
          clear hk htk
          have H9 := Lib.hid (H2.out.trans ((Hwa.out.trans Hlo1.out).mono hn13))
          have hlg := Hg.out.look k hkl
          have hpc := hlks.at_ hkl
          have p0 := (H9.out.cell (World.block_lt_of_cell? _ _ hpc.1)).trans hpc.1
          have p1 := (H9.out.cell (World.block_lt_of_cell? _ _ hpc.2.1)).trans hpc.2.1
          have p2 := (H9.out.cell (World.block_lt_of_cell? _ _ hpc.2.2)).trans hpc.2.2
          have pbl := World.block_lt_of_cell? _ _ p0
          simp only at pbl
          clear hpc c5 f5 l5
          go_upto_region 13 with (fail)
          have hb : Below w9.heap.size w9 (w9.alloc (.cells #[.int .i64 (glk B.looks k).blows, .int .i64 (glk B.looks k).thick, .int .i64 (glk B.looks k).err] 75)) := (Below.refl _ _).alloc (Nat.le_refl _) _
          have k15 := BoxAt.new w9 #[.int .i64 (glk B.looks k).blows, .int .i64 (glk B.looks k).thick, .int .i64 (glk B.looks k).err] 75
          generalize World.alloc w9 _ = wb at *
          have h159 := Kg.out.lt
          have h1513 := K13b.out.lt
          have h1505 := K5b.out.lt
          have h1509 := K9b.out.lt
          have h1503 := K3b.out.lt
          have Hlo2 := Lib.hid (Hlo1.out.trans (hb.mono (by have := Hs8.out; omega)))
          have K3c := Lib.hid (K3b.out.below hb)
          have K5c := Lib.hid (K5b.out.below hb)
          have K9c := Lib.hid (K9b.out.below hb)
          have K13c := Lib.hid (K13b.out.below hb)
          have Kgc := Lib.hid (Kg.out.below hb)
          have Hlkc := Lib.hid (Hlkg.out.below hb)
          have hn15 := Hs8.out
          generalize w9.heap.size = n15 at *
          have K15 := Lib.hid k15
          clear hb p0 p1 p2 pbl c3 f3 l3
          obtain ⟨c15, f15, l15⟩ := k15
          obtain ⟨c5, f5, l5⟩ := K5c.out
          have htt := turnZ_bd (n := n1) (b := 5) (by decide)
          go_cut [6] (fun s wx => s = .bool false ∧ BoxAt wx n15 #[.int .i64 (glk B.looks k).blows, .int .i64 (glk B.looks k).thick, .int .i64 (if 50 ≤ (glk B.looks k).err + turnZ n1 5 then 50 else (glk B.looks k).err + turnZ n1 5)] ∧ Keep (fun q => q = n15) wb wx)
          case first =>
            as_aux_lemma =>
              have hw1 : IntKind.i64.wrap ((glk B.looks k).err + turnZ n1 5) = (glk B.looks k).err + turnZ n1 5 := wrap_in (by omega) (by omega)
              have hcs : (glk B.looks k).err + turnZ n1 5 < 50 ∨ 50 ≤ (glk B.looks k).err + turnZ n1 5 := by omega
              rcases hcs with hcs | hcs
              all_goals
                refine region_plain (S := fun w' => Below wb.heap.size wb w') 8 (by kernel_rfl) ?_ (fun hHeld => ?_)
                · exact (Below.refl _ _).drew
                first | (refine anyT_take 0 (some 75) (v := ?_) rfl rfl (by kernel_rfl) (by kernel_rfl) (by kernel_rfl) (by kernel_rfl) (fun _ _ _ h => h) (Or.inl ⟨by rfl, ?_⟩) hHeld ?_; rotate_left; focus (intro wq hSw; obtain ⟨hcq, hfq⟩ := bcell hSw; go_simp; (try with_reducible rfl); done))
                (try simp only [Act.put, List.setIfInBounds_toArray, List.set_cons_zero, List.set_cons_succ])
                first | (refine anyT_take 1 (some 76) (v := ?_) rfl rfl (by kernel_rfl) (by kernel_rfl) (by kernel_rfl) (by kernel_rfl) (fun _ _ _ h => h) (Or.inl ⟨by rfl, ?_⟩) hHeld ?_; rotate_left; focus (intro wq hSw; obtain ⟨hcq, hfq⟩ := bcell hSw; go_simp; (try with_reducible rfl); done))
                (try simp only [Act.put, List.setIfInBounds_toArray, List.set_cons_zero, List.set_cons_succ])
                first | (refine anyT_take 2 (some 77) (v := ?_) rfl rfl (by kernel_rfl) (by kernel_rfl) (by kernel_rfl) (by kernel_rfl) (fun _ _ _ h => h) (Or.inl ⟨by rfl, ?_⟩) hHeld ?_; rotate_left; focus (intro wq hSw; obtain ⟨hcq, hfq⟩ := bcell hSw; go_simp; (try with_reducible rfl); done))
                (try simp only [Act.put, List.setIfInBounds_toArray, List.set_cons_zero, List.set_cons_succ])
                first | (refine anyT_take 3 (some 78) (v := ?_) rfl rfl (by kernel_rfl) (by kernel_rfl) (by kernel_rfl) (by kernel_rfl) (fun _ _ _ h => h) (Or.inl ⟨by rfl, ?_⟩) hHeld ?_; rotate_left; focus (intro wq hSw; obtain ⟨hcq, hfq⟩ := bcell hSw; go_simp; (try with_reducible rfl); done))
                (try simp only [Act.put, List.setIfInBounds_toArray, List.set_cons_zero, List.set_cons_succ])
                refine anyT_one 4 (by kernel_rfl) rfl (fun K hK => ?_)
                go_simp
                refine (Turn_calls _ _ _ (by decide)).mono ?_; rintro e x1 ⟨rfl, rfl⟩
                refine hK.out _ _ ?_ (fun hHeld => ?_)
                · exact hHeld
                clear hK K
                (try simp only [Act.put, List.setIfInBounds_toArray, List.set_cons_zero, List.set_cons_succ])
                first | (refine anyT_take 5 (some 80) (v := ?_) rfl rfl (by kernel_rfl) (by kernel_rfl) (by kernel_rfl) (by kernel_rfl) (fun _ _ _ h => h) (Or.inl ⟨by rfl, ?_⟩) hHeld ?_; rotate_left; focus (intro wq hSw; obtain ⟨hcq, hfq⟩ := bcell hSw; go_simp; (try with_reducible rfl); done))
                (try simp only [Act.put, List.setIfInBounds_toArray, List.set_cons_zero, List.set_cons_succ])
                first | (refine anyT_take 6 (some 81) (v := ?_) rfl rfl (by kernel_rfl) (by kernel_rfl) (by kernel_rfl) (by kernel_rfl) (fun _ _ _ h => h) (Or.inl ⟨by rfl, ?_⟩) hHeld ?_; rotate_left; focus (intro wq hSw; obtain ⟨hcq, hfq⟩ := bcell hSw; go_simp; (try with_reducible rfl); done))
                (try simp only [Act.put, List.setIfInBounds_toArray, List.set_cons_zero, List.set_cons_succ])
                first | (refine anyT_take 7 (some 82) (v := ?_) rfl rfl (by kernel_rfl) (by kernel_rfl) (by kernel_rfl) (by kernel_rfl) (fun _ _ _ h => h) (Or.inl ⟨by rfl, ?_⟩) hHeld ?_; rotate_left; focus (intro wq hSw; obtain ⟨hcq, hfq⟩ := bcell hSw; go_simp; (try with_reducible rfl); done))
                (try simp only [Act.put, List.setIfInBounds_toArray, List.set_cons_zero, List.set_cons_succ])
                refine anyT_last (by kernel_rfl) rfl (fun K hK => ?_)
                obtain ⟨c15, f15, l15⟩ := K15.out.below hHeld
                go_simp
                refine hK.out _ _ ?_
                clear hK K
                (try simp only [Act.put, List.setIfInBounds_toArray, List.set_cons_zero, List.set_cons_succ])
                refine anyT_done (by kernel_rfl) ?_ _
                go_wp2; go_meet; exact ⟨rfl, by first | (rw [if_neg (by omega)]; exact (K15.out.below hHeld).put 2 (.int .i64 ((glk B.looks k).err + turnZ n1 5)) (by simp)) | (rw [if_pos (by omega)]; exact (K15.out.below hHeld).put 2 (.int .i64 50) (by simp)), Keep.setCell (M := fun q => q = n15) (Keep.of_below hHeld) (p := ⟨n15, 2, none⟩) (.inl rfl) _⟩
          case rest =>
            obtain ⟨rfl, k15, hkx⟩ := hcut
            have he9 : (glk B.looks k).err ≤ (if 50 ≤ (glk B.looks k).err + turnZ n1 5 then 50 else (glk B.looks k).err + turnZ n1 5) ∧ 0 ≤ (if 50 ≤ (glk B.looks k).err + turnZ n1 5 then 50 else (glk B.looks k).err + turnZ n1 5) ∧ (if 50 ≤ (glk B.looks k).err + turnZ n1 5 then 50 else (glk B.looks k).err + turnZ n1 5) ≤ 50 := by split <;> omega
            generalize (if 50 ≤ (glk B.looks k).err + turnZ n1 5 then 50 else (glk B.looks k).err + turnZ n1 5) = e9 at *
            have He9 := Lib.hid he9
            have Hlo3 := Lib.hid (Hlo2.out.trans (hkx.below (n := n13) (fun q _ e => by omega) (by omega)))
            have K3d := Lib.hid (K3c.out.keep hkx (by omega))
            have K5d := Lib.hid (K5c.out.keep hkx (by omega))
            have K9d := Lib.hid (K9c.out.keep hkx (by omega))
            have K13d := Lib.hid (K13c.out.keep hkx (by omega))
            have Kgd := Lib.hid (Kgc.out.keep hkx (by omega))
            have Hlkd := Lib.hid (Hlkc.out.keep hkx (fun b o e => by cases e; omega))
            clear hkx he9 htt c15 f15 l15 c5 f5 l5
            obtain ⟨c15, f15, l15⟩ := k15
            obtain ⟨c13, f13, l13⟩ := K13d.out
            have fg := Kgd.out.frozen
            have hpg := Hlkd.out.at_ hkl
            rw [Nat.zero_add] at hpg
            obtain ⟨q0, q1, q2⟩ := hpg
            go_upto_region 15 with (fail)
            have hk3 : Keep (fun q => q = g) wc (((wc.setCell ⟨g, k * 3, none⟩ (.int .i64 (glk B.looks k).blows)).setCell ⟨g, k * 3 + 1, none⟩ (.int .i64 (glk B.looks k).thick)).setCell ⟨g, k * 3 + 2, none⟩ (.int .i64 e9)) := Keep.setCell (M := fun q => q = g) (Keep.setCell (M := fun q => q = g) (Keep.setCell (M := fun q => q = g) (Keep.refl _ _) (p := ⟨g, k * 3, none⟩) (.inl rfl) _) (p := ⟨g, k * 3 + 1, none⟩) (.inl rfl) _) (p := ⟨g, k * 3 + 2, none⟩) (.inl rfl) _
            have hlX := looks_put Kgd.out Hlkd.out hkl (glk B.looks k).blows (glk B.looks k).thick e9
            have Hlo4 := Lib.hid (Hlo3.out.trans (hk3.below (n := n13) (fun q _ e => by omega) (by have := Hlo3.out.size; omega)))
            have HX4 := Lib.hid (H2.out.trans ((Hwa.out.trans Hlo4.out).mono hn13))
            have K3e := Lib.hid (K3d.out.keep hk3 (by omega))
            have K9e := Lib.hid (K9d.out.keep hk3 (by omega))
            have k13 := K13d.out.keep hk3 (by omega)
            have hX : (looserLook B (some ⟨g, 0, none⟩) c8 k e9).Reads (((wc.setCell ⟨g, k * 3, none⟩ (.int .i64 (glk B.looks k).blows)).setCell ⟨g, k * 3 + 1, none⟩ (.int .i64 (glk B.looks k).thick)).setCell ⟨g, k * 3 + 2, none⟩ (.int .i64 e9)) := by
              have h := HB0.out.below HX4.out
              exact ⟨h.lots, h.thins, hlX⟩
            have HX := Lib.hid hX
            have gX := looser_good Hg.out (some ⟨g, 0, none⟩) c8 hkl He9.out.2
            have hWd := wider_looser (some ⟨g, 0, none⟩) c8 hkl He9.out.1
            have hcX := hWd.can Hc0.out
            have hbt := hWd.between Hc0.out bl
            have hst := fun v hv => hWd.strength Hg.out gX who v hv
            have hun : underB lo hi (betweenS (looserLook B (some ⟨g, 0, none⟩) c8 k e9) bl).1 (betweenS (looserLook B (some ⟨g, 0, none⟩) c8 k e9) bl).2 = true := by
              rw [Hlo.out, Hhi.out]
              unfold underB
              simp [hbt.1, hbt.2]
            have Hun := Lib.hid hun
            have Hst := Lib.hid hst
            have ha2 : askedE (looserLook B (some ⟨g, 0, none⟩) c8 k e9) (inB who 0 2) = 0 := by rw [inB_iff.2 (by omega), asked_good' gX, hcX]; rfl
            have Ha2 := Lib.hid ha2
            have hth := thick_at gX hcX (n := bl) (by have := Hbl.out; omega)
            clear hk3 hlX hX hbt hst hun ha2 q0 q1 q2 fg c13 f13 l13 c15 f15 l15 hWd
            have K13e := Lib.hid k13
            generalize World.setCell (World.setCell (World.setCell wc _ _) _ _) _ _ = wd at *
            obtain ⟨c13, f13, l13⟩ := k13
            go_wp2_with fail
            refine (eq0_2 (v' := (looserLook B (some ⟨g, 0, none⟩) c8 k e9).val) (by unfold ForgeV.val; rw [looser_cells]) (Thick_calls (looserLook B (some ⟨g, 0, none⟩) c8 k e9) bl _ HX.out)).mono ?_
            rintro e w10 ⟨rfl, hb⟩
            rw [hth]
            clear hth gX hcX c13 f13 l13
            generalize (betweenS (looserLook B (some ⟨g, 0, none⟩) c8 k e9) bl).1 = lo2 at *
            generalize (betweenS (looserLook B (some ⟨g, 0, none⟩) c8 k e9) bl).2 = hi2 at *
            replace HX := Lib.hid (HX.out.below hb)
            replace HX4 := Lib.hid (below_then HX4.out HX4.out.size hb)
            have Hlo5 := Lib.hid (Hlo4.out.trans (hb.mono (by have := Hlo4.out.size; omega)))
            replace K13e := Lib.hid (K13e.out.below hb)
            replace K3e := Lib.hid (K3e.out.below hb)
            replace K9e := Lib.hid (K9e.out.below hb)
            clear hb
            go_upto_region 16 with (fail)
            have hb : Below w10.heap.size w10 (w10.alloc (.cells #[.int .i64 lo2, .int .i64 hi2] 24)) := (Below.refl _ _).alloc (Nat.le_refl _) _
            have k16 := BoxAt.new w10 #[.int .i64 lo2, .int .i64 hi2] 24
            generalize World.alloc w10 _ = w11 at *
            replace HX := Lib.hid (HX.out.below hb)
            replace HX4 := Lib.hid (below_then HX4.out HX4.out.size hb)
            replace Hlo5 := Lib.hid (Hlo5.out.trans (hb.mono (by have := Hlo5.out.size; omega)))
            replace K13e := Lib.hid (K13e.out.below hb)
            replace K3e := Lib.hid (K3e.out.below hb)
            replace K9e := Lib.hid (K9e.out.below hb)
            generalize w10.heap.size = n16 at *
            clear hb
            obtain ⟨c13, f13, l13⟩ := K13e.out
            go_wp2_with fail
            refine (eq0_2 (v' := (looserLook B (some ⟨g, 0, none⟩) c8 k e9).val) (by unfold ForgeV.val; rw [looser_cells]) (Strength_calls (looserLook B (some ⟨g, 0, none⟩) c8 k e9) who _ HX.out)).mono ?_
            rintro e w12 ⟨hs, hb⟩
            obtain ⟨A18, rfl, hl18⟩ := strength_ok hs Ha2.out
            replace HX4 := Lib.hid (below_then HX4.out HX4.out.size hb)
            have Hlo6 := Lib.hid (Hlo5.out.trans (hb.mono (by have := Hlo5.out.size; omega)))
            replace K3e := Lib.hid (K3e.out.below hb)
            replace K9e := Lib.hid (K9e.out.below hb)
            have k16 := k16.below hb
            have Hl18 := Lib.hid hl18
            clear hb hs c13 f13 l13 hl18 HX K13e
            generalize strengthS (looserLook B (some ⟨g, 0, none⟩) c8 k e9) who = S2 at *
            have Hl9y := Lib.hid (Hl9.out.below (show Below w5.heap.size w5 w12 by rw [Hne.out]; exact Hwa.out.trans Hlo6.out))
            obtain ⟨c16, f16, l16⟩ := k16
            obtain ⟨c9, f9, l9⟩ := K9e.out
            have Hz : Below w12.heap.size w12 w12 := Below.refl _ _
            go_upto_region 19 with (first
              | (go_at_call 58; refine (Under_calls _ _ _ _ _).mono ?_; rintro e w6 ⟨rfl, hb⟩; rw [Hun.out]; have Hz := below_then Hz Hz.size hb; replace Hl9y := Lib.hid (Hl9y.out.below hb); replace Hl18 := Lib.hid (Hl18.out.below hb); clear hb)
              | (go_at_call 59; refine (all_calls _ _ _ _ _ _ _ Hl9y.out Hl18.out (fun v hv => Hst.out v (by rw [← HS.out]; exact hv))).mono ?_; rintro e w' ⟨rfl, rfl⟩))
            have hq : Below w5.heap.size w5 w6 := by rw [Hne.out]; exact Hwa.out.trans (Hlo6.out.trans (Hz.mono (by have := Hlo6.out.size; omega)))
            replace H2 := Lib.hid (below_then H2.out H2.out.size hq)
            replace K3 := Lib.hid (K3.out.below hq)
            replace K4 := Lib.hid (K4.out.below hq)
            replace K5 := Lib.hid (K5.out.below hq)
            replace K9 := Lib.hid (K9.out.below hq)
            replace Hl9 := Lib.hid (Hl9.out.below hq)
            clear hq Hz hn13 hn9 hn5b hn3b h13 h9 hgb h159 h1513 h1505 h1509 h1503 hn15 hkl hlg Hl9y Hl18 Hst Hun Ha2 HX4 K3e K9e Hlo6 Hlo5 Hlo4 Hlo3 Hlo2 Hlo1 K3d K5d K9d K13d Kgd Hlkd K3c K5c K9c K13c Kgc Hlkc c16 f16 l16 c9 f9 l9 hlks
            by_cases h8 : B.looks.length = 8
            · as_aux_lemma =>
                have hl8 : (B.looks.length : Int) = 8 := by omega
                obtain ⟨c3, f3, l3⟩ := K3.out
                clear h8
                go_wp2_with fail
                refine (works_calls _ (HM0.out.below H2.out)).mono ?_
                rintro e w12 ⟨rfl, hb⟩
                go_wp2
                go_ret
                exact ⟨rfl, below_then H2.out H2.out.size hb⟩

            · as_aux_lemma =>
                have hl7 : B.looks.length < 8 := by have := Hg.out.looksLen; omega
                have h8b : ((B.looks.length : Int) == 8) = false := by simp; omega
                obtain ⟨c3, f3, l3⟩ := K3.out
                go_upto_region 22 with (fail)
                have hb : Below w6.heap.size w6 (w6.alloc (.cells B.cells 28)) := (Below.refl _ _).alloc (Nat.le_refl _) _
                have k20 := BoxAt.new w6 B.cells 28
                unfold ForgeV.cells at hb k20
                generalize World.alloc w6 _ = wa at *
                have hn20 := H2.out.size
                have hn21 := K9.out.lt
                have Hwa := Lib.hid hb
                have Hl9o := Lib.hid Hl9.out
                replace H2 := Lib.hid (below_then H2.out H2.out.size hb)
                replace K3 := Lib.hid (K3.out.below hb)
                replace K4 := Lib.hid (K4.out.below hb)
                replace K9 := Lib.hid (K9.out.below hb)
                replace Hl9 := Lib.hid (Hl9.out.below hb)
                generalize hne : w6.heap.size = n20 at *
                have Hne := Lib.hid hne
                have K20 := Lib.hid k20
                have h20 := k20.lt
                clear hb c3 f3 l3 k20 h8b hne
                obtain ⟨c3, f3, l3⟩ := K3.out
                obtain ⟨c4, f4, l4⟩ := K4.out
                have Hlk := Lib.hid (HB0.out.below H2.out).looks
                go_cut [6] (fun s wx => s = .bool false ∧ ∃ A c, BoxAt wx n20 (withLook B A c ⟨ma, mb, mc⟩).cells ∧ LooksAt wx A (B.looks ++ [⟨ma, mb, mc⟩]) ∧ Keep (fun q => q = n20) wa wx)
                case first =>
                  as_aux_lemma =>
                    refine region_plain (S := fun w' => Below wa.heap.size wa w') 8 (by kernel_rfl) ?_ (fun hHeld => ?_)
                    · exact (Below.refl _ _).drew
                    generalize hWd : World.drew wa = Wd at *; have hWds := hHeld.size
                    first | (refine anyT_take 1 (some 125) (v := ?_) rfl rfl (by kernel_rfl) (by kernel_rfl) (by kernel_rfl) (by kernel_rfl) (fun _ _ _ h => h) (Or.inl ⟨by rfl, ?_⟩) hHeld ?_; rotate_left; focus (intro wq hSw; obtain ⟨hcq, hfq⟩ := bcell hSw; go_simp; (try with_reducible rfl); done))
                    (try simp only [Act.put, List.setIfInBounds_toArray, List.set_cons_zero, List.set_cons_succ])
                    first | (refine anyT_take 2 (some 126) (v := ?_) rfl rfl (by kernel_rfl) (by kernel_rfl) (by kernel_rfl) (by kernel_rfl) (fun _ _ _ h => h) (Or.inl ⟨by rfl, ?_⟩) hHeld ?_; rotate_left; focus (intro wq hSw; obtain ⟨hcq, hfq⟩ := bcell hSw; go_simp; (try with_reducible rfl); done))
                    (try simp only [Act.put, List.setIfInBounds_toArray, List.set_cons_zero, List.set_cons_succ])
                    first | (refine anyT_take 4 (some 128) (v := ?_) rfl rfl (by kernel_rfl) (by kernel_rfl) (by kernel_rfl) (by kernel_rfl) (fun _ _ _ h => h) (Or.inl ⟨by rfl, ?_⟩) hHeld ?_; rotate_left; focus (intro wq hSw; obtain ⟨hcq, hfq⟩ := bcell hSw; go_simp; (try with_reducible rfl); done))
                    (try simp only [Act.put, List.setIfInBounds_toArray, List.set_cons_zero, List.set_cons_succ])
                    refine anyT_two 0 5 (by kernel_rfl) rfl rfl (fun K hK => ?_) (fun K hK => ?_)
                    · go_simp
                      refine hK.out _ _ ?_ (fun hHeld => ?_)
                      · exact hHeld.alloc hHeld.size _
                      clear hK K
                      (try simp only [Act.put, List.setIfInBounds_toArray, List.set_cons_zero, List.set_cons_succ])
                      refine anyT_two 3 5 (by kernel_rfl) rfl rfl (fun K hK => ?_) (fun K hK => ?_)
                      · rw [if_pos (by rfl)]; refine wp_appLooks _ _ _ rfl wa.heap.size (.slice (some ⟨_, 0, none⟩) 0 0) [] rfl (by first | exact OwnLooks.lit Wd _ hWds | exact (OwnLooks.lit Wd _ hWds).alloc _ | (have h := OwnLooks.lit (World.alloc Wd (.cells #[.int .i64 ma, .int .i64 mb, .int .i64 mc] 75)) wa.heap.size (by rw [World.size_alloc]; omega); rw [World.size_alloc] at h; exact h)) B.kA B.kCap B.looks rfl (Hlk.out.below hHeld) (by simp; omega) hHeld.size ?_; rintro v5 w5' ho5 hb5 hk5; have hb5' := hHeld.trans hb5; have ho5 : OwnLooks w5' wa.heap.size v5 B.looks := ho5
                        go_simp
                        refine hK.out _ _ ?_ (fun hHeld => ?_)
                        · exact hb5'
                        clear hK K
                        (try simp only [Act.put, List.setIfInBounds_toArray, List.set_cons_zero, List.set_cons_succ])
                        refine anyT_one 5 (by kernel_rfl) rfl (fun K hK => ?_)
                        go_simp
                        refine hK.out _ _ ?_ (fun hHeld => ?_)
                        · exact hHeld.alloc hHeld.size _
                        clear hK K
                        (try simp only [Act.put, List.setIfInBounds_toArray, List.set_cons_zero, List.set_cons_succ])
                        refine anyT_one 6 (by kernel_rfl) rfl (fun K hK => ?_)
                        rw [if_pos (by rfl)]; refine wp_appLooks _ _ _ rfl wa.heap.size _ B.looks rfl (by first | exact ho5.alloc _ | exact ho5) (some ⟨_, 0, none⟩) 1 [⟨ma, mb, mc⟩] rfl (LooksAt.of1 (by first | exact BoxAt.new _ _ _ | (have h := BoxAt.new (World.alloc Wd (.cells #[] 75)) #[.int .i64 ma, .int .i64 mb, .int .i64 mc] 75; rw [World.size_alloc] at h; exact h.keep hk5 (by simp [Value.ownBlock])) | exact ((BoxAt.new Wd _ _).alloc _).keep hk5 (by simp [Value.ownBlock]))) (by simp; omega) hHeld.size ?_; rintro v8 w8 ho8 hb8 _; have hb8' := hHeld.trans hb8; obtain ⟨A8, c8, rfl, hl8, hg8⟩ := ho8.reads (by simp; omega)
                        go_simp
                        refine hK.out _ _ ?_ (fun hHeld => ?_)
                        · exact hb8'
                        clear hK K
                        (try simp only [Act.put, List.setIfInBounds_toArray, List.set_cons_zero, List.set_cons_succ])
                        first | (refine anyT_take 7 (some 131) (v := ?_) rfl rfl (by kernel_rfl) (by kernel_rfl) (by kernel_rfl) (by kernel_rfl) (fun _ _ _ h => h) (Or.inl ⟨by rfl, ?_⟩) hHeld ?_; rotate_left; focus (intro wq hSw; obtain ⟨hcq, hfq⟩ := bcell hSw; go_simp; (try with_reducible rfl); done))
                        (try simp only [Act.put, List.setIfInBounds_toArray, List.set_cons_zero, List.set_cons_succ])
                        refine anyT_last (by kernel_rfl) rfl (fun K hK => ?_)
                        obtain ⟨c20, f20, l20⟩ := K20.out.below hHeld
                        go_simp
                        refine hK.out _ _ ?_
                        clear hK K
                        (try simp only [Act.put, List.setIfInBounds_toArray, List.set_cons_zero, List.set_cons_succ])
                        refine anyT_done (by kernel_rfl) ?_ _
                        go_wp2; go_meet; exact ⟨rfl, A8, c8, by rw [withLook_cells]; exact (K20.out.below hHeld).put 13 (.slice A8 (B.looks.length + 1) c8) (by simp), hl8.keep (Keep.setCell (M := fun q => q = n20) (Keep.refl _ _) (p := ⟨n20, 13, none⟩) (.inl rfl) _) (fun b o e => by have := hg8 b o e; omega), Keep.setCell (M := fun q => q = n20) (Keep.of_below hHeld) (p := ⟨n20, 13, none⟩) (.inl rfl) _⟩
                      · go_simp
                        refine hK.out _ _ ?_ (fun hHeld => ?_)
                        · exact hHeld.alloc hHeld.size _
                        clear hK K
                        (try simp only [Act.put, List.setIfInBounds_toArray, List.set_cons_zero, List.set_cons_succ])
                        refine anyT_one 3 (by kernel_rfl) rfl (fun K hK => ?_)
                        rw [if_pos (by rfl)]; refine wp_appLooks _ _ _ rfl wa.heap.size (.slice (some ⟨_, 0, none⟩) 0 0) [] rfl (by first | exact OwnLooks.lit Wd _ hWds | exact (OwnLooks.lit Wd _ hWds).alloc _ | (have h := OwnLooks.lit (World.alloc Wd (.cells #[.int .i64 ma, .int .i64 mb, .int .i64 mc] 75)) wa.heap.size (by rw [World.size_alloc]; omega); rw [World.size_alloc] at h; exact h)) B.kA B.kCap B.looks rfl (Hlk.out.below hHeld) (by simp; omega) hHeld.size ?_; rintro v5 w5' ho5 hb5 hk5; have hb5' := hHeld.trans hb5; have ho5 : OwnLooks w5' wa.heap.size v5 B.looks := ho5
                        go_simp
                        refine hK.out _ _ ?_ (fun hHeld => ?_)
                        · exact hb5'
                        clear hK K
                        (try simp only [Act.put, List.setIfInBounds_toArray, List.set_cons_zero, List.set_cons_succ])
                        refine anyT_one 6 (by kernel_rfl) rfl (fun K hK => ?_)
                        rw [if_pos (by rfl)]; refine wp_appLooks _ _ _ rfl wa.heap.size _ B.looks rfl (by first | exact ho5.alloc _ | exact ho5) (some ⟨_, 0, none⟩) 1 [⟨ma, mb, mc⟩] rfl (LooksAt.of1 (by first | exact BoxAt.new _ _ _ | (have h := BoxAt.new (World.alloc Wd (.cells #[] 75)) #[.int .i64 ma, .int .i64 mb, .int .i64 mc] 75; rw [World.size_alloc] at h; exact h.keep hk5 (by simp [Value.ownBlock])) | exact ((BoxAt.new Wd _ _).alloc _).keep hk5 (by simp [Value.ownBlock]))) (by simp; omega) hHeld.size ?_; rintro v8 w8 ho8 hb8 _; have hb8' := hHeld.trans hb8; obtain ⟨A8, c8, rfl, hl8, hg8⟩ := ho8.reads (by simp; omega)
                        go_simp
                        refine hK.out _ _ ?_ (fun hHeld => ?_)
                        · exact hb8'
                        clear hK K
                        (try simp only [Act.put, List.setIfInBounds_toArray, List.set_cons_zero, List.set_cons_succ])
                        first | (refine anyT_take 7 (some 131) (v := ?_) rfl rfl (by kernel_rfl) (by kernel_rfl) (by kernel_rfl) (by kernel_rfl) (fun _ _ _ h => h) (Or.inl ⟨by rfl, ?_⟩) hHeld ?_; rotate_left; focus (intro wq hSw; obtain ⟨hcq, hfq⟩ := bcell hSw; go_simp; (try with_reducible rfl); done))
                        (try simp only [Act.put, List.setIfInBounds_toArray, List.set_cons_zero, List.set_cons_succ])
                        refine anyT_last (by kernel_rfl) rfl (fun K hK => ?_)
                        obtain ⟨c20, f20, l20⟩ := K20.out.below hHeld
                        go_simp
                        refine hK.out _ _ ?_
                        clear hK K
                        (try simp only [Act.put, List.setIfInBounds_toArray, List.set_cons_zero, List.set_cons_succ])
                        refine anyT_done (by kernel_rfl) ?_ _
                        go_wp2; go_meet; exact ⟨rfl, A8, c8, by rw [withLook_cells]; exact (K20.out.below hHeld).put 13 (.slice A8 (B.looks.length + 1) c8) (by simp), hl8.keep (Keep.setCell (M := fun q => q = n20) (Keep.refl _ _) (p := ⟨n20, 13, none⟩) (.inl rfl) _) (fun b o e => by have := hg8 b o e; omega), Keep.setCell (M := fun q => q = n20) (Keep.of_below hHeld) (p := ⟨n20, 13, none⟩) (.inl rfl) _⟩
                    · go_simp
                      refine hK.out _ _ ?_ (fun hHeld => ?_)
                      · exact hHeld.alloc hHeld.size _
                      clear hK K
                      (try simp only [Act.put, List.setIfInBounds_toArray, List.set_cons_zero, List.set_cons_succ])
                      refine anyT_one 0 (by kernel_rfl) rfl (fun K hK => ?_)
                      go_simp
                      refine hK.out _ _ ?_ (fun hHeld => ?_)
                      · exact hHeld.alloc hHeld.size _
                      clear hK K
                      (try simp only [Act.put, List.setIfInBounds_toArray, List.set_cons_zero, List.set_cons_succ])
                      refine anyT_one 3 (by kernel_rfl) rfl (fun K hK => ?_)
                      rw [if_pos (by rfl)]; refine wp_appLooks _ _ _ rfl wa.heap.size (.slice (some ⟨_, 0, none⟩) 0 0) [] rfl (by first | exact OwnLooks.lit Wd _ hWds | exact (OwnLooks.lit Wd _ hWds).alloc _ | (have h := OwnLooks.lit (World.alloc Wd (.cells #[.int .i64 ma, .int .i64 mb, .int .i64 mc] 75)) wa.heap.size (by rw [World.size_alloc]; omega); rw [World.size_alloc] at h; exact h)) B.kA B.kCap B.looks rfl (Hlk.out.below hHeld) (by simp; omega) hHeld.size ?_; rintro v5 w5' ho5 hb5 hk5; have hb5' := hHeld.trans hb5; have ho5 : OwnLooks w5' wa.heap.size v5 B.looks := ho5
                      go_simp
                      refine hK.out _ _ ?_ (fun hHeld => ?_)
                      · exact hb5'
                      clear hK K
                      (try simp only [Act.put, List.setIfInBounds_toArray, List.set_cons_zero, List.set_cons_succ])
                      refine anyT_one 6 (by kernel_rfl) rfl (fun K hK => ?_)
                      rw [if_pos (by rfl)]; refine wp_appLooks _ _ _ rfl wa.heap.size _ B.looks rfl (by first | exact ho5.alloc _ | exact ho5) (some ⟨_, 0, none⟩) 1 [⟨ma, mb, mc⟩] rfl (LooksAt.of1 (by first | exact BoxAt.new _ _ _ | (have h := BoxAt.new (World.alloc Wd (.cells #[] 75)) #[.int .i64 ma, .int .i64 mb, .int .i64 mc] 75; rw [World.size_alloc] at h; exact h.keep hk5 (by simp [Value.ownBlock])) | exact ((BoxAt.new Wd _ _).alloc _).keep hk5 (by simp [Value.ownBlock]))) (by simp; omega) hHeld.size ?_; rintro v8 w8 ho8 hb8 _; have hb8' := hHeld.trans hb8; obtain ⟨A8, c8, rfl, hl8, hg8⟩ := ho8.reads (by simp; omega)
                      go_simp
                      refine hK.out _ _ ?_ (fun hHeld => ?_)
                      · exact hb8'
                      clear hK K
                      (try simp only [Act.put, List.setIfInBounds_toArray, List.set_cons_zero, List.set_cons_succ])
                      first | (refine anyT_take 7 (some 131) (v := ?_) rfl rfl (by kernel_rfl) (by kernel_rfl) (by kernel_rfl) (by kernel_rfl) (fun _ _ _ h => h) (Or.inl ⟨by rfl, ?_⟩) hHeld ?_; rotate_left; focus (intro wq hSw; obtain ⟨hcq, hfq⟩ := bcell hSw; go_simp; (try with_reducible rfl); done))
                      (try simp only [Act.put, List.setIfInBounds_toArray, List.set_cons_zero, List.set_cons_succ])
                      refine anyT_last (by kernel_rfl) rfl (fun K hK => ?_)
                      obtain ⟨c20, f20, l20⟩ := K20.out.below hHeld
                      go_simp
                      refine hK.out _ _ ?_
                      clear hK K
                      (try simp only [Act.put, List.setIfInBounds_toArray, List.set_cons_zero, List.set_cons_succ])
                      refine anyT_done (by kernel_rfl) ?_ _
                      go_wp2; go_meet; exact ⟨rfl, A8, c8, by rw [withLook_cells]; exact (K20.out.below hHeld).put 13 (.slice A8 (B.looks.length + 1) c8) (by simp), hl8.keep (Keep.setCell (M := fun q => q = n20) (Keep.refl _ _) (p := ⟨n20, 13, none⟩) (.inl rfl) _) (fun b o e => by have := hg8 b o e; omega), Keep.setCell (M := fun q => q = n20) (Keep.of_below hHeld) (p := ⟨n20, 13, none⟩) (.inl rfl) _⟩
                case rest =>
                  obtain ⟨rfl, A8, c8, k20, hl8, hkx⟩ := hcut
                  as_aux_lemma =>
                    have H2x := Lib.hid (H2.out.trans (hkx.below (n := w.heap.size) (fun q _ e => by omega) H2.out.size))
                    have hX : (withLook B A8 c8 ⟨ma, mb, mc⟩).Reads wc := by
                      have h := HB0.out.below H2x.out
                      exact ⟨h.lots, h.thins, hl8⟩
                    have HX := Lib.hid hX
                    have K9x := Lib.hid (K9.out.keep hkx (by omega))
                    have hq : Below w6.heap.size w6 wc := by rw [Hne.out]; exact Hwa.out.trans (hkx.below (n := n20) (fun q _ e => by omega) (by omega))
                    have Hl9x := Lib.hid (Hl9o.out.below hq)
                    have h3 := asked_three (withLook B A8 c8 ⟨ma, mb, mc⟩) (n := bl) (s := who) (by have := Hbl.out; omega) (by omega)
                    have H3 := Lib.hid h3
                    rw [withLook_cells] at k20
                    have K20 := Lib.hid k20
                    clear hX hkx hl8 h3 k20 c3 f3 l3 c4 f4 l4 hq
                    obtain ⟨c20, f20, l20⟩ := K20.out
                    rcases H3.out with ⟨ee, hee, ha1, ha2⟩ | ⟨gX, hcX, ha1, ha2⟩
                    · as_aux_lemma =>
                        have hee0 : ee ≠ 0 := by omega
                        have Hee := Lib.hid hee
                        clear hee
                        go_wp2_with fail
                        refine (eq0_2 (v' := (withLook B A8 c8 ⟨ma, mb, mc⟩).val) (by unfold ForgeV.val; rw [withLook_cells]) (Thick_calls (withLook B A8 c8 ⟨ma, mb, mc⟩) bl _ HX.out)).mono ?_
                        rintro e w10 ⟨rfl, hb⟩
                        rw [thick_err ha1 hee0]
                        replace HX := Lib.hid (HX.out.below hb)
                        replace H2x := Lib.hid (below_then H2x.out H2x.out.size hb)
                        replace K20 := Lib.hid (K20.out.below hb)
                        clear hb c20 f20 l20
                        have Ha2 := Lib.hid ha2
                        clear ha1 ha2
                        go_upto_region 24 with (fail)
                        have hb : Below w10.heap.size w10 (w10.alloc (.cells #[.int .i64 0, .int .i64 0] 24)) := (Below.refl _ _).alloc (Nat.le_refl _) _
                        have k21 := BoxAt.new w10 #[.int .i64 0, .int .i64 0] 24
                        generalize World.alloc w10 _ = w11 at *
                        replace HX := Lib.hid (HX.out.below hb)
                        replace H2x := Lib.hid (below_then H2x.out H2x.out.size hb)
                        replace K20 := Lib.hid (K20.out.below hb)
                        generalize w10.heap.size = n21 at *
                        clear hb
                        obtain ⟨c20, f20, l20⟩ := K20.out
                        go_wp2_with fail
                        refine (eq0_2 (v' := (withLook B A8 c8 ⟨ma, mb, mc⟩).val) (by unfold ForgeV.val; rw [withLook_cells]) (Strength_calls (withLook B A8 c8 ⟨ma, mb, mc⟩) who _ HX.out)).mono ?_
                        rintro e w12 ⟨hs, hb⟩
                        obtain rfl := strength_err hs Ha2.out hee0
                        replace H2x := Lib.hid (below_then H2x.out H2x.out.size hb)
                        have K21 := Lib.hid (k21.below hb)
                        clear hb hs c20 f20 l20 k21
                        obtain ⟨c21, f21, l21⟩ := K21.out
                        clear hee0
                        rcases Hee.out with rfl | rfl
                        all_goals
                          go_upto_region 28 with (fail)
                          refine region_plain (S := fun w' => Below w12.heap.size w12 w') 20 (by kernel_rfl) ?_ (fun hHeld => ?_)
                          · exact (Below.refl _ _).drew
                          first | (refine anyT_take 0 (some 149) (v := ?_) rfl rfl (by kernel_rfl) (by kernel_rfl) (by kernel_rfl) (by kernel_rfl) (fun _ _ _ h => h) (Or.inl ⟨by rfl, ?_⟩) hHeld ?_; rotate_left; focus (intro wq hSw; obtain ⟨hcq, hfq⟩ := bcell hSw; go_simp; (try with_reducible rfl); done))
                          (try simp only [Act.put, List.setIfInBounds_toArray, List.set_cons_zero, List.set_cons_succ])
                          first | (refine anyT_take 1 (some 150) (v := ?_) rfl rfl (by kernel_rfl) (by kernel_rfl) (by kernel_rfl) (by kernel_rfl) (fun _ _ _ h => h) (Or.inl ⟨by rfl, ?_⟩) hHeld ?_; rotate_left; focus (intro wq hSw; obtain ⟨hcq, hfq⟩ := bcell hSw; go_simp; (try with_reducible rfl); done))
                          (try simp only [Act.put, List.setIfInBounds_toArray, List.set_cons_zero, List.set_cons_succ])
                          first | (refine anyT_take 2 (some 151) (v := ?_) rfl rfl (by kernel_rfl) (by kernel_rfl) (by kernel_rfl) (by kernel_rfl) (fun _ _ _ h => h) (Or.inl ⟨by rfl, ?_⟩) hHeld ?_; rotate_left; focus (intro wq hSw; obtain ⟨hcq, hfq⟩ := bcell hSw; go_simp; (try with_reducible rfl); done))
                          (try simp only [Act.put, List.setIfInBounds_toArray, List.set_cons_zero, List.set_cons_succ])
                          first | (refine anyT_take 3 (some 152) rfl rfl (by kernel_rfl) (by kernel_rfl) (by kernel_rfl) (by kernel_rfl) (fun _ _ _ h => h) (Or.inr ⟨by rfl, rfl⟩) hHeld ?_) | (refine anyT_take 3 (some 152) (v := ?_) rfl rfl (by kernel_rfl) (by kernel_rfl) (by kernel_rfl) (by kernel_rfl) (fun _ _ _ h => h) (Or.inl ⟨by rfl, ?_⟩) hHeld ?_; rotate_left; focus (intro wq hSw; obtain ⟨hcq, hfq⟩ := bcell hSw; go_simp; (try with_reducible rfl); done))
                          (try simp only [Act.put, List.setIfInBounds_toArray, List.set_cons_zero, List.set_cons_succ])
                          first | (refine anyT_take 4 (some 153) rfl rfl (by kernel_rfl) (by kernel_rfl) (by kernel_rfl) (by kernel_rfl) (fun _ _ _ h => h) (Or.inr ⟨by rfl, rfl⟩) hHeld ?_) | (refine anyT_take 4 (some 153) (v := ?_) rfl rfl (by kernel_rfl) (by kernel_rfl) (by kernel_rfl) (by kernel_rfl) (fun _ _ _ h => h) (Or.inl ⟨by rfl, ?_⟩) hHeld ?_; rotate_left; focus (intro wq hSw; obtain ⟨hcq, hfq⟩ := bcell hSw; go_simp; (try with_reducible rfl); done))
                          (try simp only [Act.put, List.setIfInBounds_toArray, List.set_cons_zero, List.set_cons_succ])
                          first | (refine anyT_take 5 (some 154) (v := ?_) rfl rfl (by kernel_rfl) (by kernel_rfl) (by kernel_rfl) (by kernel_rfl) (fun _ _ _ h => h) (Or.inl ⟨by rfl, ?_⟩) hHeld ?_; rotate_left; focus (intro wq hSw; obtain ⟨hcq, hfq⟩ := bcell hSw; go_simp; (try with_reducible rfl); done))
                          (try simp only [Act.put, List.setIfInBounds_toArray, List.set_cons_zero, List.set_cons_succ])
                          first | (refine anyT_take 6 (some 155) (v := ?_) rfl rfl (by kernel_rfl) (by kernel_rfl) (by kernel_rfl) (by kernel_rfl) (fun _ _ _ h => h) (Or.inl ⟨by rfl, ?_⟩) hHeld ?_; rotate_left; focus (intro wq hSw; obtain ⟨hcq, hfq⟩ := bcell hSw; go_simp; (try with_reducible rfl); done))
                          (try simp only [Act.put, List.setIfInBounds_toArray, List.set_cons_zero, List.set_cons_succ])
                          first | (refine anyT_take 7 (some 156) rfl rfl (by kernel_rfl) (by kernel_rfl) (by kernel_rfl) (by kernel_rfl) (fun _ _ _ h => h) (Or.inr ⟨by rfl, rfl⟩) hHeld ?_) | (refine anyT_take 7 (some 156) (v := ?_) rfl rfl (by kernel_rfl) (by kernel_rfl) (by kernel_rfl) (by kernel_rfl) (fun _ _ _ h => h) (Or.inl ⟨by rfl, ?_⟩) hHeld ?_; rotate_left; focus (intro wq hSw; obtain ⟨hcq, hfq⟩ := bcell hSw; go_simp; (try with_reducible rfl); done))
                          (try simp only [Act.put, List.setIfInBounds_toArray, List.set_cons_zero, List.set_cons_succ])
                          refine anyT_one 8 (by kernel_rfl) rfl (fun K hK => ?_)
                          go_simp
                          refine (Band_calls _ _ _).mono ?_; rintro e x1 ⟨rfl, hb1⟩
                          refine hK.out _ _ ?_ (fun hHeld => ?_)
                          · exact below_then hHeld hHeld.size hb1
                          clear hK K
                          (try simp only [Act.put, List.setIfInBounds_toArray, List.set_cons_zero, List.set_cons_succ])
                          first | (refine anyT_take 9 (some 158) rfl rfl (by kernel_rfl) (by kernel_rfl) (by kernel_rfl) (by kernel_rfl) (fun _ _ _ h => h) (Or.inr ⟨by rfl, rfl⟩) hHeld ?_) | (refine anyT_take 9 (some 158) (v := ?_) rfl rfl (by kernel_rfl) (by kernel_rfl) (by kernel_rfl) (by kernel_rfl) (fun _ _ _ h => h) (Or.inl ⟨by rfl, ?_⟩) hHeld ?_; rotate_left; focus (intro wq hSw; obtain ⟨hcq, hfq⟩ := bcell hSw; go_simp; (try with_reducible rfl); done))
                          (try simp only [Act.put, List.setIfInBounds_toArray, List.set_cons_zero, List.set_cons_succ])
                          first | (refine anyT_take 10 (some 159) (v := ?_) rfl rfl (by kernel_rfl) (by kernel_rfl) (by kernel_rfl) (by kernel_rfl) (fun _ _ _ h => h) (Or.inl ⟨by rfl, ?_⟩) hHeld ?_; rotate_left; focus (intro wq hSw; obtain ⟨hcq, hfq⟩ := bcell hSw; go_simp; (try with_reducible rfl); done))
                          (try simp only [Act.put, List.setIfInBounds_toArray, List.set_cons_zero, List.set_cons_succ])
                          first | (refine anyT_take 11 (some 160) (v := ?_) rfl rfl (by kernel_rfl) (by kernel_rfl) (by kernel_rfl) (by kernel_rfl) (fun _ _ _ h => h) (Or.inl ⟨by rfl, ?_⟩) hHeld ?_; rotate_left; focus (intro wq hSw; obtain ⟨hcq, hfq⟩ := bcell hSw; go_simp; (try with_reducible rfl); done))
                          (try simp only [Act.put, List.setIfInBounds_toArray, List.set_cons_zero, List.set_cons_succ])
                          first | (refine anyT_take 12 (some 161) rfl rfl (by kernel_rfl) (by kernel_rfl) (by kernel_rfl) (by kernel_rfl) (fun _ _ _ h => h) (Or.inr ⟨by rfl, rfl⟩) hHeld ?_) | (refine anyT_take 12 (some 161) (v := ?_) rfl rfl (by kernel_rfl) (by kernel_rfl) (by kernel_rfl) (by kernel_rfl) (fun _ _ _ h => h) (Or.inl ⟨by rfl, ?_⟩) hHeld ?_; rotate_left; focus (intro wq hSw; obtain ⟨hcq, hfq⟩ := bcell hSw; go_simp; (try with_reducible rfl); done))
                          (try simp only [Act.put, List.setIfInBounds_toArray, List.set_cons_zero, List.set_cons_succ])
                          first | (refine anyT_take 13 (some 162) rfl rfl (by kernel_rfl) (by kernel_rfl) (by kernel_rfl) (by kernel_rfl) (fun _ _ _ h => h) (Or.inr ⟨by rfl, rfl⟩) hHeld ?_) | (refine anyT_take 13 (some 162) (v := ?_) rfl rfl (by kernel_rfl) (by kernel_rfl) (by kernel_rfl) (by kernel_rfl) (fun _ _ _ h => h) (Or.inl ⟨by rfl, ?_⟩) hHeld ?_; rotate_left; focus (intro wq hSw; obtain ⟨hcq, hfq⟩ := bcell hSw; go_simp; (try with_reducible rfl); done))
                          (try simp only [Act.put, List.setIfInBounds_toArray, List.set_cons_zero, List.set_cons_succ])
                          first | (refine anyT_take 14 (some 163) rfl rfl (by kernel_rfl) (by kernel_rfl) (by kernel_rfl) (by kernel_rfl) (fun _ _ _ h => h) (Or.inr ⟨by rfl, rfl⟩) hHeld ?_) | (refine anyT_take 14 (some 163) (v := ?_) rfl rfl (by kernel_rfl) (by kernel_rfl) (by kernel_rfl) (by kernel_rfl) (fun _ _ _ h => h) (Or.inl ⟨by rfl, ?_⟩) hHeld ?_; rotate_left; focus (intro wq hSw; obtain ⟨hcq, hfq⟩ := bcell hSw; go_simp; (try with_reducible rfl); done))
                          (try simp only [Act.put, List.setIfInBounds_toArray, List.set_cons_zero, List.set_cons_succ])
                          first | (refine anyT_take 15 (some 164) (v := ?_) rfl rfl (by kernel_rfl) (by kernel_rfl) (by kernel_rfl) (by kernel_rfl) (fun _ _ _ h => h) (Or.inl ⟨by rfl, ?_⟩) hHeld ?_; rotate_left; focus (intro wq hSw; obtain ⟨hcq, hfq⟩ := bcell hSw; go_simp; (try with_reducible rfl); done))
                          (try simp only [Act.put, List.setIfInBounds_toArray, List.set_cons_zero, List.set_cons_succ])
                          first | (refine anyT_take 16 (some 165) (v := ?_) rfl rfl (by kernel_rfl) (by kernel_rfl) (by kernel_rfl) (by kernel_rfl) (fun _ _ _ h => h) (Or.inl ⟨by rfl, ?_⟩) hHeld ?_; rotate_left; focus (intro wq hSw; obtain ⟨hcq, hfq⟩ := bcell hSw; go_simp; (try with_reducible rfl); done))
                          (try simp only [Act.put, List.setIfInBounds_toArray, List.set_cons_zero, List.set_cons_succ])
                          refine anyT_one 17 (by kernel_rfl) rfl (fun K hK => ?_)
                          go_simp
                          refine (works_calls _ (HM0.out.below (below_then H2x.out H2x.out.size hHeld))).mono ?_; rintro e x2 ⟨rfl, hb2⟩
                          refine hK.out _ _ ?_ (fun hHeld => ?_)
                          · exact below_then hHeld hHeld.size hb2
                          clear hK K
                          (try simp only [Act.put, List.setIfInBounds_toArray, List.set_cons_zero, List.set_cons_succ])
                          first | (refine anyT_take 18 (some 167) (v := ?_) rfl rfl (by kernel_rfl) (by kernel_rfl) (by kernel_rfl) (by kernel_rfl) (fun _ _ _ h => h) (Or.inl ⟨by rfl, ?_⟩) hHeld ?_; rotate_left; focus (intro wq hSw; obtain ⟨hcq, hfq⟩ := bcell hSw; go_simp; (try with_reducible rfl); done))
                          (try simp only [Act.put, List.setIfInBounds_toArray, List.set_cons_zero, List.set_cons_succ])
                          first | (refine anyT_take 19 (some 6) (v := ?_) rfl rfl (by kernel_rfl) (by kernel_rfl) (by kernel_rfl) (by kernel_rfl) (fun _ _ _ h => h) (Or.inl ⟨by rfl, ?_⟩) hHeld ?_; rotate_left; focus (intro wq hSw; obtain ⟨hcq, hfq⟩ := bcell hSw; go_simp; (try with_reducible rfl); done))
                          (try simp only [Act.put, List.setIfInBounds_toArray, List.set_cons_zero, List.set_cons_succ])
                          refine anyT_done (by kernel_rfl) ?_ _
                          go_wp2
                          go_ret
                          exact ⟨rfl, below_then H2x.out H2x.out.size hHeld⟩

                    · as_aux_lemma =>
                        have hWd := wider_withLook B A8 c8 ⟨ma, mb, mc⟩
                        have hbt := hWd.between hcX bl
                        have hst := fun v hv => hWd.strength gX Hg.out who v hv
                        go_wp2_with fail
                        refine (eq0_2 (v' := (withLook B A8 c8 ⟨ma, mb, mc⟩).val) (by unfold ForgeV.val; rw [withLook_cells]) (Thick_calls (withLook B A8 c8 ⟨ma, mb, mc⟩) bl _ HX.out)).mono ?_
                        rintro e w10 ⟨rfl, hb⟩
                        rw [thick_at gX hcX (by have := Hbl.out; omega)]
                        have hun : underB (betweenS (withLook B A8 c8 ⟨ma, mb, mc⟩) bl).1 (betweenS (withLook B A8 c8 ⟨ma, mb, mc⟩) bl).2 lo hi = true := by
                          rw [Hlo.out, Hhi.out]
                          unfold underB
                          simp [hbt.1, hbt.2]
                        have Hun := Lib.hid hun
                        have Hst := Lib.hid hst
                        clear hbt hun hst
                        generalize (betweenS (withLook B A8 c8 ⟨ma, mb, mc⟩) bl).1 = lo2 at *
                        generalize (betweenS (withLook B A8 c8 ⟨ma, mb, mc⟩) bl).2 = hi2 at *
                        replace HX := Lib.hid (HX.out.below hb)
                        replace H2x := Lib.hid (below_then H2x.out H2x.out.size hb)
                        replace K20 := Lib.hid (K20.out.below hb)
                        replace K9x := Lib.hid (K9x.out.below hb)
                        replace Hl9x := Lib.hid (Hl9x.out.below hb)
                        clear hb c20 f20 l20
                        have Ha2 := Lib.hid ha2
                        clear ha1 ha2 hWd
                        go_upto_region 24 with (fail)
                        have hb : Below w10.heap.size w10 (w10.alloc (.cells #[.int .i64 lo2, .int .i64 hi2] 24)) := (Below.refl _ _).alloc (Nat.le_refl _) _
                        have k21 := BoxAt.new w10 #[.int .i64 lo2, .int .i64 hi2] 24
                        generalize World.alloc w10 _ = w11 at *
                        replace HX := Lib.hid (HX.out.below hb)
                        replace H2x := Lib.hid (below_then H2x.out H2x.out.size hb)
                        replace K20 := Lib.hid (K20.out.below hb)
                        replace K9x := Lib.hid (K9x.out.below hb)
                        replace Hl9x := Lib.hid (Hl9x.out.below hb)
                        generalize w10.heap.size = n21 at *
                        clear hb
                        obtain ⟨c20, f20, l20⟩ := K20.out
                        go_wp2_with fail
                        refine (eq0_2 (v' := (withLook B A8 c8 ⟨ma, mb, mc⟩).val) (by unfold ForgeV.val; rw [withLook_cells]) (Strength_calls (withLook B A8 c8 ⟨ma, mb, mc⟩) who _ HX.out)).mono ?_
                        rintro e w12 ⟨hs, hb⟩
                        obtain ⟨A23, rfl, hl23⟩ := strength_ok hs Ha2.out
                        replace H2x := Lib.hid (below_then H2x.out H2x.out.size hb)
                        replace K9x := Lib.hid (K9x.out.below hb)
                        replace Hl9x := Lib.hid (Hl9x.out.below hb)
                        have k21 := k21.below hb
                        have Hl23 := Lib.hid hl23
                        clear hb hs c20 f20 l20 hl23 HX
                        generalize strengthS (withLook B A8 c8 ⟨ma, mb, mc⟩) who = S2 at *
                        obtain ⟨c21, f21, l21⟩ := k21
                        obtain ⟨c9, f9, l9⟩ := K9x.out
                        go_upto_region 29 with (fail)
                        have Hz : Below w12.heap.size w12 w12 := Below.refl _ _
                        go_wp2_with (first
                          | (go_at_call 58; refine (Under_calls _ _ _ _ _).mono ?_; rintro e w' ⟨rfl, hb⟩; rw [Hun.out]; have Hz := below_then Hz Hz.size hb; replace Hl9x := Lib.hid (Hl9x.out.below hb); replace Hl23 := Lib.hid (Hl23.out.below hb); clear hb)
                          | (go_at_call 59; refine (all_calls _ _ _ _ _ _ _ Hl23.out Hl9x.out (fun v hv => by rw [HS.out]; exact Hst.out v hv)).mono ?_; rintro e w' ⟨rfl, rfl⟩)
                          | (go_at_call 27; refine (works_calls _ (HM0.out.below (below_then H2x.out H2x.out.size Hz))).mono ?_; rintro e w13 ⟨rfl, hb⟩; have Hz := below_then Hz Hz.size hb; clear hb))
                        go_ret
                        exact ⟨rfl, below_then H2x.out H2x.out.size Hz⟩

      · as_aux_lemma =>
          have hl0i : ¬ (0 : Int) < B.looks.length := by omega
          have h8 : ¬ B.looks.length = 8 := by omega
          go_upto_region 19 with (fail)
          clear hl0i hl0
          generalize w5 = w6 at *
          have hl7 : B.looks.length < 8 := by have := Hg.out.looksLen; omega
          have h8b : ((B.looks.length : Int) == 8) = false := by simp; omega
          obtain ⟨c3, f3, l3⟩ := K3.out
          go_upto_region 22 with (fail)
          have hb : Below w6.heap.size w6 (w6.alloc (.cells B.cells 28)) := (Below.refl _ _).alloc (Nat.le_refl _) _
          have k20 := BoxAt.new w6 B.cells 28
          unfold ForgeV.cells at hb k20
          generalize World.alloc w6 _ = wa at *
          have hn20 := H2.out.size
          have hn21 := K9.out.lt
          have Hwa := Lib.hid hb
          have Hl9o := Lib.hid Hl9.out
          replace H2 := Lib.hid (below_then H2.out H2.out.size hb)
          replace K3 := Lib.hid (K3.out.below hb)
          replace K4 := Lib.hid (K4.out.below hb)
          replace K9 := Lib.hid (K9.out.below hb)
          replace Hl9 := Lib.hid (Hl9.out.below hb)
          generalize hne : w6.heap.size = n20 at *
          have Hne := Lib.hid hne
          have K20 := Lib.hid k20
          have h20 := k20.lt
          clear hb c3 f3 l3 k20 h8b hne
          obtain ⟨c3, f3, l3⟩ := K3.out
          obtain ⟨c4, f4, l4⟩ := K4.out
          have Hlk := Lib.hid (HB0.out.below H2.out).looks
          go_cut [6] (fun s wx => s = .bool false ∧ ∃ A c, BoxAt wx n20 (withLook B A c ⟨ma, mb, mc⟩).cells ∧ LooksAt wx A (B.looks ++ [⟨ma, mb, mc⟩]) ∧ Keep (fun q => q = n20) wa wx)
          case first =>
            as_aux_lemma =>
              refine region_plain (S := fun w' => Below wa.heap.size wa w') 8 (by kernel_rfl) ?_ (fun hHeld => ?_)
              · exact (Below.refl _ _).drew
              generalize hWd : World.drew wa = Wd at *; have hWds := hHeld.size
              first | (refine anyT_take 1 (some 125) (v := ?_) rfl rfl (by kernel_rfl) (by kernel_rfl) (by kernel_rfl) (by kernel_rfl) (fun _ _ _ h => h) (Or.inl ⟨by rfl, ?_⟩) hHeld ?_; rotate_left; focus (intro wq hSw; obtain ⟨hcq, hfq⟩ := bcell hSw; go_simp; (try with_reducible rfl); done))
              (try simp only [Act.put, List.setIfInBounds_toArray, List.set_cons_zero, List.set_cons_succ])
              first | (refine anyT_take 2 (some 126) (v := ?_) rfl rfl (by kernel_rfl) (by kernel_rfl) (by kernel_rfl) (by kernel_rfl) (fun _ _ _ h => h) (Or.inl ⟨by rfl, ?_⟩) hHeld ?_; rotate_left; focus (intro wq hSw; obtain ⟨hcq, hfq⟩ := bcell hSw; go_simp; (try with_reducible rfl); done))
              (try simp only [Act.put, List.setIfInBounds_toArray, List.set_cons_zero, List.set_cons_succ])
              first | (refine anyT_take 4 (some 128) (v := ?_) rfl rfl (by kernel_rfl) (by kernel_rfl) (by kernel_rfl) (by kernel_rfl) (fun _ _ _ h => h) (Or.inl ⟨by rfl, ?_⟩) hHeld ?_; rotate_left; focus (intro wq hSw; obtain ⟨hcq, hfq⟩ := bcell hSw; go_simp; (try with_reducible rfl); done))
              (try simp only [Act.put, List.setIfInBounds_toArray, List.set_cons_zero, List.set_cons_succ])
              refine anyT_two 0 5 (by kernel_rfl) rfl rfl (fun K hK => ?_) (fun K hK => ?_)
              · go_simp
                refine hK.out _ _ ?_ (fun hHeld => ?_)
                · exact hHeld.alloc hHeld.size _
                clear hK K
                (try simp only [Act.put, List.setIfInBounds_toArray, List.set_cons_zero, List.set_cons_succ])
                refine anyT_two 3 5 (by kernel_rfl) rfl rfl (fun K hK => ?_) (fun K hK => ?_)
                · rw [if_pos (by rfl)]; refine wp_appLooks _ _ _ rfl wa.heap.size (.slice (some ⟨_, 0, none⟩) 0 0) [] rfl (by first | exact OwnLooks.lit Wd _ hWds | exact (OwnLooks.lit Wd _ hWds).alloc _ | (have h := OwnLooks.lit (World.alloc Wd (.cells #[.int .i64 ma, .int .i64 mb, .int .i64 mc] 75)) wa.heap.size (by rw [World.size_alloc]; omega); rw [World.size_alloc] at h; exact h)) B.kA B.kCap B.looks rfl (Hlk.out.below hHeld) (by simp; omega) hHeld.size ?_; rintro v5 w5' ho5 hb5 hk5; have hb5' := hHeld.trans hb5; have ho5 : OwnLooks w5' wa.heap.size v5 B.looks := ho5
                  go_simp
                  refine hK.out _ _ ?_ (fun hHeld => ?_)
                  · exact hb5'
                  clear hK K
                  (try simp only [Act.put, List.setIfInBounds_toArray, List.set_cons_zero, List.set_cons_succ])
                  refine anyT_one 5 (by kernel_rfl) rfl (fun K hK => ?_)
                  go_simp
                  refine hK.out _ _ ?_ (fun hHeld => ?_)
                  · exact hHeld.alloc hHeld.size _
                  clear hK K
                  (try simp only [Act.put, List.setIfInBounds_toArray, List.set_cons_zero, List.set_cons_succ])
                  refine anyT_one 6 (by kernel_rfl) rfl (fun K hK => ?_)
                  rw [if_pos (by rfl)]; refine wp_appLooks _ _ _ rfl wa.heap.size _ B.looks rfl (by first | exact ho5.alloc _ | exact ho5) (some ⟨_, 0, none⟩) 1 [⟨ma, mb, mc⟩] rfl (LooksAt.of1 (by first | exact BoxAt.new _ _ _ | (have h := BoxAt.new (World.alloc Wd (.cells #[] 75)) #[.int .i64 ma, .int .i64 mb, .int .i64 mc] 75; rw [World.size_alloc] at h; exact h.keep hk5 (by simp [Value.ownBlock])) | exact ((BoxAt.new Wd _ _).alloc _).keep hk5 (by simp [Value.ownBlock]))) (by simp; omega) hHeld.size ?_; rintro v8 w8 ho8 hb8 _; have hb8' := hHeld.trans hb8; obtain ⟨A8, c8, rfl, hl8, hg8⟩ := ho8.reads (by simp; omega)
                  go_simp
                  refine hK.out _ _ ?_ (fun hHeld => ?_)
                  · exact hb8'
                  clear hK K
                  (try simp only [Act.put, List.setIfInBounds_toArray, List.set_cons_zero, List.set_cons_succ])
                  first | (refine anyT_take 7 (some 131) (v := ?_) rfl rfl (by kernel_rfl) (by kernel_rfl) (by kernel_rfl) (by kernel_rfl) (fun _ _ _ h => h) (Or.inl ⟨by rfl, ?_⟩) hHeld ?_; rotate_left; focus (intro wq hSw; obtain ⟨hcq, hfq⟩ := bcell hSw; go_simp; (try with_reducible rfl); done))
                  (try simp only [Act.put, List.setIfInBounds_toArray, List.set_cons_zero, List.set_cons_succ])
                  refine anyT_last (by kernel_rfl) rfl (fun K hK => ?_)
                  obtain ⟨c20, f20, l20⟩ := K20.out.below hHeld
                  go_simp
                  refine hK.out _ _ ?_
                  clear hK K
                  (try simp only [Act.put, List.setIfInBounds_toArray, List.set_cons_zero, List.set_cons_succ])
                  refine anyT_done (by kernel_rfl) ?_ _
                  go_wp2; go_meet; exact ⟨rfl, A8, c8, by rw [withLook_cells]; exact (K20.out.below hHeld).put 13 (.slice A8 (B.looks.length + 1) c8) (by simp), hl8.keep (Keep.setCell (M := fun q => q = n20) (Keep.refl _ _) (p := ⟨n20, 13, none⟩) (.inl rfl) _) (fun b o e => by have := hg8 b o e; omega), Keep.setCell (M := fun q => q = n20) (Keep.of_below hHeld) (p := ⟨n20, 13, none⟩) (.inl rfl) _⟩
                · go_simp
                  refine hK.out _ _ ?_ (fun hHeld => ?_)
                  · exact hHeld.alloc hHeld.size _
                  clear hK K
                  (try simp only [Act.put, List.setIfInBounds_toArray, List.set_cons_zero, List.set_cons_succ])
                  refine anyT_one 3 (by kernel_rfl) rfl (fun K hK => ?_)
                  rw [if_pos (by rfl)]; refine wp_appLooks _ _ _ rfl wa.heap.size (.slice (some ⟨_, 0, none⟩) 0 0) [] rfl (by first | exact OwnLooks.lit Wd _ hWds | exact (OwnLooks.lit Wd _ hWds).alloc _ | (have h := OwnLooks.lit (World.alloc Wd (.cells #[.int .i64 ma, .int .i64 mb, .int .i64 mc] 75)) wa.heap.size (by rw [World.size_alloc]; omega); rw [World.size_alloc] at h; exact h)) B.kA B.kCap B.looks rfl (Hlk.out.below hHeld) (by simp; omega) hHeld.size ?_; rintro v5 w5' ho5 hb5 hk5; have hb5' := hHeld.trans hb5; have ho5 : OwnLooks w5' wa.heap.size v5 B.looks := ho5
                  go_simp
                  refine hK.out _ _ ?_ (fun hHeld => ?_)
                  · exact hb5'
                  clear hK K
                  (try simp only [Act.put, List.setIfInBounds_toArray, List.set_cons_zero, List.set_cons_succ])
                  refine anyT_one 6 (by kernel_rfl) rfl (fun K hK => ?_)
                  rw [if_pos (by rfl)]; refine wp_appLooks _ _ _ rfl wa.heap.size _ B.looks rfl (by first | exact ho5.alloc _ | exact ho5) (some ⟨_, 0, none⟩) 1 [⟨ma, mb, mc⟩] rfl (LooksAt.of1 (by first | exact BoxAt.new _ _ _ | (have h := BoxAt.new (World.alloc Wd (.cells #[] 75)) #[.int .i64 ma, .int .i64 mb, .int .i64 mc] 75; rw [World.size_alloc] at h; exact h.keep hk5 (by simp [Value.ownBlock])) | exact ((BoxAt.new Wd _ _).alloc _).keep hk5 (by simp [Value.ownBlock]))) (by simp; omega) hHeld.size ?_; rintro v8 w8 ho8 hb8 _; have hb8' := hHeld.trans hb8; obtain ⟨A8, c8, rfl, hl8, hg8⟩ := ho8.reads (by simp; omega)
                  go_simp
                  refine hK.out _ _ ?_ (fun hHeld => ?_)
                  · exact hb8'
                  clear hK K
                  (try simp only [Act.put, List.setIfInBounds_toArray, List.set_cons_zero, List.set_cons_succ])
                  first | (refine anyT_take 7 (some 131) (v := ?_) rfl rfl (by kernel_rfl) (by kernel_rfl) (by kernel_rfl) (by kernel_rfl) (fun _ _ _ h => h) (Or.inl ⟨by rfl, ?_⟩) hHeld ?_; rotate_left; focus (intro wq hSw; obtain ⟨hcq, hfq⟩ := bcell hSw; go_simp; (try with_reducible rfl); done))
                  (try simp only [Act.put, List.setIfInBounds_toArray, List.set_cons_zero, List.set_cons_succ])
                  refine anyT_last (by kernel_rfl) rfl (fun K hK => ?_)
                  obtain ⟨c20, f20, l20⟩ := K20.out.below hHeld
                  go_simp
                  refine hK.out _ _ ?_
                  clear hK K
                  (try simp only [Act.put, List.setIfInBounds_toArray, List.set_cons_zero, List.set_cons_succ])
                  refine anyT_done (by kernel_rfl) ?_ _
                  go_wp2; go_meet; exact ⟨rfl, A8, c8, by rw [withLook_cells]; exact (K20.out.below hHeld).put 13 (.slice A8 (B.looks.length + 1) c8) (by simp), hl8.keep (Keep.setCell (M := fun q => q = n20) (Keep.refl _ _) (p := ⟨n20, 13, none⟩) (.inl rfl) _) (fun b o e => by have := hg8 b o e; omega), Keep.setCell (M := fun q => q = n20) (Keep.of_below hHeld) (p := ⟨n20, 13, none⟩) (.inl rfl) _⟩
              · go_simp
                refine hK.out _ _ ?_ (fun hHeld => ?_)
                · exact hHeld.alloc hHeld.size _
                clear hK K
                (try simp only [Act.put, List.setIfInBounds_toArray, List.set_cons_zero, List.set_cons_succ])
                refine anyT_one 0 (by kernel_rfl) rfl (fun K hK => ?_)
                go_simp
                refine hK.out _ _ ?_ (fun hHeld => ?_)
                · exact hHeld.alloc hHeld.size _
                clear hK K
                (try simp only [Act.put, List.setIfInBounds_toArray, List.set_cons_zero, List.set_cons_succ])
                refine anyT_one 3 (by kernel_rfl) rfl (fun K hK => ?_)
                rw [if_pos (by rfl)]; refine wp_appLooks _ _ _ rfl wa.heap.size (.slice (some ⟨_, 0, none⟩) 0 0) [] rfl (by first | exact OwnLooks.lit Wd _ hWds | exact (OwnLooks.lit Wd _ hWds).alloc _ | (have h := OwnLooks.lit (World.alloc Wd (.cells #[.int .i64 ma, .int .i64 mb, .int .i64 mc] 75)) wa.heap.size (by rw [World.size_alloc]; omega); rw [World.size_alloc] at h; exact h)) B.kA B.kCap B.looks rfl (Hlk.out.below hHeld) (by simp; omega) hHeld.size ?_; rintro v5 w5' ho5 hb5 hk5; have hb5' := hHeld.trans hb5; have ho5 : OwnLooks w5' wa.heap.size v5 B.looks := ho5
                go_simp
                refine hK.out _ _ ?_ (fun hHeld => ?_)
                · exact hb5'
                clear hK K
                (try simp only [Act.put, List.setIfInBounds_toArray, List.set_cons_zero, List.set_cons_succ])
                refine anyT_one 6 (by kernel_rfl) rfl (fun K hK => ?_)
                rw [if_pos (by rfl)]; refine wp_appLooks _ _ _ rfl wa.heap.size _ B.looks rfl (by first | exact ho5.alloc _ | exact ho5) (some ⟨_, 0, none⟩) 1 [⟨ma, mb, mc⟩] rfl (LooksAt.of1 (by first | exact BoxAt.new _ _ _ | (have h := BoxAt.new (World.alloc Wd (.cells #[] 75)) #[.int .i64 ma, .int .i64 mb, .int .i64 mc] 75; rw [World.size_alloc] at h; exact h.keep hk5 (by simp [Value.ownBlock])) | exact ((BoxAt.new Wd _ _).alloc _).keep hk5 (by simp [Value.ownBlock]))) (by simp; omega) hHeld.size ?_; rintro v8 w8 ho8 hb8 _; have hb8' := hHeld.trans hb8; obtain ⟨A8, c8, rfl, hl8, hg8⟩ := ho8.reads (by simp; omega)
                go_simp
                refine hK.out _ _ ?_ (fun hHeld => ?_)
                · exact hb8'
                clear hK K
                (try simp only [Act.put, List.setIfInBounds_toArray, List.set_cons_zero, List.set_cons_succ])
                first | (refine anyT_take 7 (some 131) (v := ?_) rfl rfl (by kernel_rfl) (by kernel_rfl) (by kernel_rfl) (by kernel_rfl) (fun _ _ _ h => h) (Or.inl ⟨by rfl, ?_⟩) hHeld ?_; rotate_left; focus (intro wq hSw; obtain ⟨hcq, hfq⟩ := bcell hSw; go_simp; (try with_reducible rfl); done))
                (try simp only [Act.put, List.setIfInBounds_toArray, List.set_cons_zero, List.set_cons_succ])
                refine anyT_last (by kernel_rfl) rfl (fun K hK => ?_)
                obtain ⟨c20, f20, l20⟩ := K20.out.below hHeld
                go_simp
                refine hK.out _ _ ?_
                clear hK K
                (try simp only [Act.put, List.setIfInBounds_toArray, List.set_cons_zero, List.set_cons_succ])
                refine anyT_done (by kernel_rfl) ?_ _
                go_wp2; go_meet; exact ⟨rfl, A8, c8, by rw [withLook_cells]; exact (K20.out.below hHeld).put 13 (.slice A8 (B.looks.length + 1) c8) (by simp), hl8.keep (Keep.setCell (M := fun q => q = n20) (Keep.refl _ _) (p := ⟨n20, 13, none⟩) (.inl rfl) _) (fun b o e => by have := hg8 b o e; omega), Keep.setCell (M := fun q => q = n20) (Keep.of_below hHeld) (p := ⟨n20, 13, none⟩) (.inl rfl) _⟩
          case rest =>
            obtain ⟨rfl, A8, c8, k20, hl8, hkx⟩ := hcut
            as_aux_lemma =>
              have H2x := Lib.hid (H2.out.trans (hkx.below (n := w.heap.size) (fun q _ e => by omega) H2.out.size))
              have hX : (withLook B A8 c8 ⟨ma, mb, mc⟩).Reads wc := by
                have h := HB0.out.below H2x.out
                exact ⟨h.lots, h.thins, hl8⟩
              have HX := Lib.hid hX
              have K9x := Lib.hid (K9.out.keep hkx (by omega))
              have hq : Below w6.heap.size w6 wc := by rw [Hne.out]; exact Hwa.out.trans (hkx.below (n := n20) (fun q _ e => by omega) (by omega))
              have Hl9x := Lib.hid (Hl9o.out.below hq)
              have h3 := asked_three (withLook B A8 c8 ⟨ma, mb, mc⟩) (n := bl) (s := who) (by have := Hbl.out; omega) (by omega)
              have H3 := Lib.hid h3
              rw [withLook_cells] at k20
              have K20 := Lib.hid k20
              clear hX hkx hl8 h3 k20 c3 f3 l3 c4 f4 l4 hq
              obtain ⟨c20, f20, l20⟩ := K20.out
              rcases H3.out with ⟨ee, hee, ha1, ha2⟩ | ⟨gX, hcX, ha1, ha2⟩
              · as_aux_lemma =>
                  have hee0 : ee ≠ 0 := by omega
                  have Hee := Lib.hid hee
                  clear hee
                  go_wp2_with fail
                  refine (eq0_2 (v' := (withLook B A8 c8 ⟨ma, mb, mc⟩).val) (by unfold ForgeV.val; rw [withLook_cells]) (Thick_calls (withLook B A8 c8 ⟨ma, mb, mc⟩) bl _ HX.out)).mono ?_
                  rintro e w10 ⟨rfl, hb⟩
                  rw [thick_err ha1 hee0]
                  replace HX := Lib.hid (HX.out.below hb)
                  replace H2x := Lib.hid (below_then H2x.out H2x.out.size hb)
                  replace K20 := Lib.hid (K20.out.below hb)
                  clear hb c20 f20 l20
                  have Ha2 := Lib.hid ha2
                  clear ha1 ha2
                  go_upto_region 24 with (fail)
                  have hb : Below w10.heap.size w10 (w10.alloc (.cells #[.int .i64 0, .int .i64 0] 24)) := (Below.refl _ _).alloc (Nat.le_refl _) _
                  have k21 := BoxAt.new w10 #[.int .i64 0, .int .i64 0] 24
                  generalize World.alloc w10 _ = w11 at *
                  replace HX := Lib.hid (HX.out.below hb)
                  replace H2x := Lib.hid (below_then H2x.out H2x.out.size hb)
                  replace K20 := Lib.hid (K20.out.below hb)
                  generalize w10.heap.size = n21 at *
                  clear hb
                  obtain ⟨c20, f20, l20⟩ := K20.out
                  go_wp2_with fail
                  refine (eq0_2 (v' := (withLook B A8 c8 ⟨ma, mb, mc⟩).val) (by unfold ForgeV.val; rw [withLook_cells]) (Strength_calls (withLook B A8 c8 ⟨ma, mb, mc⟩) who _ HX.out)).mono ?_
                  rintro e w12 ⟨hs, hb⟩
                  obtain rfl := strength_err hs Ha2.out hee0
                  replace H2x := Lib.hid (below_then H2x.out H2x.out.size hb)
                  have K21 := Lib.hid (k21.below hb)
                  clear hb hs c20 f20 l20 k21
                  obtain ⟨c21, f21, l21⟩ := K21.out
                  clear hee0
                  rcases Hee.out with rfl | rfl
                  all_goals
                    go_upto_region 28 with (fail)
                    refine region_plain (S := fun w' => Below w12.heap.size w12 w') 20 (by kernel_rfl) ?_ (fun hHeld => ?_)
                    · exact (Below.refl _ _).drew
                    first | (refine anyT_take 0 (some 149) (v := ?_) rfl rfl (by kernel_rfl) (by kernel_rfl) (by kernel_rfl) (by kernel_rfl) (fun _ _ _ h => h) (Or.inl ⟨by rfl, ?_⟩) hHeld ?_; rotate_left; focus (intro wq hSw; obtain ⟨hcq, hfq⟩ := bcell hSw; go_simp; (try with_reducible rfl); done))
                    (try simp only [Act.put, List.setIfInBounds_toArray, List.set_cons_zero, List.set_cons_succ])
                    first | (refine anyT_take 1 (some 150) (v := ?_) rfl rfl (by kernel_rfl) (by kernel_rfl) (by kernel_rfl) (by kernel_rfl) (fun _ _ _ h => h) (Or.inl ⟨by rfl, ?_⟩) hHeld ?_; rotate_left; focus (intro wq hSw; obtain ⟨hcq, hfq⟩ := bcell hSw; go_simp; (try with_reducible rfl); done))
                    (try simp only [Act.put, List.setIfInBounds_toArray, List.set_cons_zero, List.set_cons_succ])
                    first | (refine anyT_take 2 (some 151) (v := ?_) rfl rfl (by kernel_rfl) (by kernel_rfl) (by kernel_rfl) (by kernel_rfl) (fun _ _ _ h => h) (Or.inl ⟨by rfl, ?_⟩) hHeld ?_; rotate_left; focus (intro wq hSw; obtain ⟨hcq, hfq⟩ := bcell hSw; go_simp; (try with_reducible rfl); done))
                    (try simp only [Act.put, List.setIfInBounds_toArray, List.set_cons_zero, List.set_cons_succ])
                    first | (refine anyT_take 3 (some 152) rfl rfl (by kernel_rfl) (by kernel_rfl) (by kernel_rfl) (by kernel_rfl) (fun _ _ _ h => h) (Or.inr ⟨by rfl, rfl⟩) hHeld ?_) | (refine anyT_take 3 (some 152) (v := ?_) rfl rfl (by kernel_rfl) (by kernel_rfl) (by kernel_rfl) (by kernel_rfl) (fun _ _ _ h => h) (Or.inl ⟨by rfl, ?_⟩) hHeld ?_; rotate_left; focus (intro wq hSw; obtain ⟨hcq, hfq⟩ := bcell hSw; go_simp; (try with_reducible rfl); done))
                    (try simp only [Act.put, List.setIfInBounds_toArray, List.set_cons_zero, List.set_cons_succ])
                    first | (refine anyT_take 4 (some 153) rfl rfl (by kernel_rfl) (by kernel_rfl) (by kernel_rfl) (by kernel_rfl) (fun _ _ _ h => h) (Or.inr ⟨by rfl, rfl⟩) hHeld ?_) | (refine anyT_take 4 (some 153) (v := ?_) rfl rfl (by kernel_rfl) (by kernel_rfl) (by kernel_rfl) (by kernel_rfl) (fun _ _ _ h => h) (Or.inl ⟨by rfl, ?_⟩) hHeld ?_; rotate_left; focus (intro wq hSw; obtain ⟨hcq, hfq⟩ := bcell hSw; go_simp; (try with_reducible rfl); done))
                    (try simp only [Act.put, List.setIfInBounds_toArray, List.set_cons_zero, List.set_cons_succ])
                    first | (refine anyT_take 5 (some 154) (v := ?_) rfl rfl (by kernel_rfl) (by kernel_rfl) (by kernel_rfl) (by kernel_rfl) (fun _ _ _ h => h) (Or.inl ⟨by rfl, ?_⟩) hHeld ?_; rotate_left; focus (intro wq hSw; obtain ⟨hcq, hfq⟩ := bcell hSw; go_simp; (try with_reducible rfl); done))
                    (try simp only [Act.put, List.setIfInBounds_toArray, List.set_cons_zero, List.set_cons_succ])
                    first | (refine anyT_take 6 (some 155) (v := ?_) rfl rfl (by kernel_rfl) (by kernel_rfl) (by kernel_rfl) (by kernel_rfl) (fun _ _ _ h => h) (Or.inl ⟨by rfl, ?_⟩) hHeld ?_; rotate_left; focus (intro wq hSw; obtain ⟨hcq, hfq⟩ := bcell hSw; go_simp; (try with_reducible rfl); done))
                    (try simp only [Act.put, List.setIfInBounds_toArray, List.set_cons_zero, List.set_cons_succ])
                    first | (refine anyT_take 7 (some 156) rfl rfl (by kernel_rfl) (by kernel_rfl) (by kernel_rfl) (by kernel_rfl) (fun _ _ _ h => h) (Or.inr ⟨by rfl, rfl⟩) hHeld ?_) | (refine anyT_take 7 (some 156) (v := ?_) rfl rfl (by kernel_rfl) (by kernel_rfl) (by kernel_rfl) (by kernel_rfl) (fun _ _ _ h => h) (Or.inl ⟨by rfl, ?_⟩) hHeld ?_; rotate_left; focus (intro wq hSw; obtain ⟨hcq, hfq⟩ := bcell hSw; go_simp; (try with_reducible rfl); done))
                    (try simp only [Act.put, List.setIfInBounds_toArray, List.set_cons_zero, List.set_cons_succ])
                    refine anyT_one 8 (by kernel_rfl) rfl (fun K hK => ?_)
                    go_simp
                    refine (Band_calls _ _ _).mono ?_; rintro e x1 ⟨rfl, hb1⟩
                    refine hK.out _ _ ?_ (fun hHeld => ?_)
                    · exact below_then hHeld hHeld.size hb1
                    clear hK K
                    (try simp only [Act.put, List.setIfInBounds_toArray, List.set_cons_zero, List.set_cons_succ])
                    first | (refine anyT_take 9 (some 158) rfl rfl (by kernel_rfl) (by kernel_rfl) (by kernel_rfl) (by kernel_rfl) (fun _ _ _ h => h) (Or.inr ⟨by rfl, rfl⟩) hHeld ?_) | (refine anyT_take 9 (some 158) (v := ?_) rfl rfl (by kernel_rfl) (by kernel_rfl) (by kernel_rfl) (by kernel_rfl) (fun _ _ _ h => h) (Or.inl ⟨by rfl, ?_⟩) hHeld ?_; rotate_left; focus (intro wq hSw; obtain ⟨hcq, hfq⟩ := bcell hSw; go_simp; (try with_reducible rfl); done))
                    (try simp only [Act.put, List.setIfInBounds_toArray, List.set_cons_zero, List.set_cons_succ])
                    first | (refine anyT_take 10 (some 159) (v := ?_) rfl rfl (by kernel_rfl) (by kernel_rfl) (by kernel_rfl) (by kernel_rfl) (fun _ _ _ h => h) (Or.inl ⟨by rfl, ?_⟩) hHeld ?_; rotate_left; focus (intro wq hSw; obtain ⟨hcq, hfq⟩ := bcell hSw; go_simp; (try with_reducible rfl); done))
                    (try simp only [Act.put, List.setIfInBounds_toArray, List.set_cons_zero, List.set_cons_succ])
                    first | (refine anyT_take 11 (some 160) (v := ?_) rfl rfl (by kernel_rfl) (by kernel_rfl) (by kernel_rfl) (by kernel_rfl) (fun _ _ _ h => h) (Or.inl ⟨by rfl, ?_⟩) hHeld ?_; rotate_left; focus (intro wq hSw; obtain ⟨hcq, hfq⟩ := bcell hSw; go_simp; (try with_reducible rfl); done))
                    (try simp only [Act.put, List.setIfInBounds_toArray, List.set_cons_zero, List.set_cons_succ])
                    first | (refine anyT_take 12 (some 161) rfl rfl (by kernel_rfl) (by kernel_rfl) (by kernel_rfl) (by kernel_rfl) (fun _ _ _ h => h) (Or.inr ⟨by rfl, rfl⟩) hHeld ?_) | (refine anyT_take 12 (some 161) (v := ?_) rfl rfl (by kernel_rfl) (by kernel_rfl) (by kernel_rfl) (by kernel_rfl) (fun _ _ _ h => h) (Or.inl ⟨by rfl, ?_⟩) hHeld ?_; rotate_left; focus (intro wq hSw; obtain ⟨hcq, hfq⟩ := bcell hSw; go_simp; (try with_reducible rfl); done))
                    (try simp only [Act.put, List.setIfInBounds_toArray, List.set_cons_zero, List.set_cons_succ])
                    first | (refine anyT_take 13 (some 162) rfl rfl (by kernel_rfl) (by kernel_rfl) (by kernel_rfl) (by kernel_rfl) (fun _ _ _ h => h) (Or.inr ⟨by rfl, rfl⟩) hHeld ?_) | (refine anyT_take 13 (some 162) (v := ?_) rfl rfl (by kernel_rfl) (by kernel_rfl) (by kernel_rfl) (by kernel_rfl) (fun _ _ _ h => h) (Or.inl ⟨by rfl, ?_⟩) hHeld ?_; rotate_left; focus (intro wq hSw; obtain ⟨hcq, hfq⟩ := bcell hSw; go_simp; (try with_reducible rfl); done))
                    (try simp only [Act.put, List.setIfInBounds_toArray, List.set_cons_zero, List.set_cons_succ])
                    first | (refine anyT_take 14 (some 163) rfl rfl (by kernel_rfl) (by kernel_rfl) (by kernel_rfl) (by kernel_rfl) (fun _ _ _ h => h) (Or.inr ⟨by rfl, rfl⟩) hHeld ?_) | (refine anyT_take 14 (some 163) (v := ?_) rfl rfl (by kernel_rfl) (by kernel_rfl) (by kernel_rfl) (by kernel_rfl) (fun _ _ _ h => h) (Or.inl ⟨by rfl, ?_⟩) hHeld ?_; rotate_left; focus (intro wq hSw; obtain ⟨hcq, hfq⟩ := bcell hSw; go_simp; (try with_reducible rfl); done))
                    (try simp only [Act.put, List.setIfInBounds_toArray, List.set_cons_zero, List.set_cons_succ])
                    first | (refine anyT_take 15 (some 164) (v := ?_) rfl rfl (by kernel_rfl) (by kernel_rfl) (by kernel_rfl) (by kernel_rfl) (fun _ _ _ h => h) (Or.inl ⟨by rfl, ?_⟩) hHeld ?_; rotate_left; focus (intro wq hSw; obtain ⟨hcq, hfq⟩ := bcell hSw; go_simp; (try with_reducible rfl); done))
                    (try simp only [Act.put, List.setIfInBounds_toArray, List.set_cons_zero, List.set_cons_succ])
                    first | (refine anyT_take 16 (some 165) (v := ?_) rfl rfl (by kernel_rfl) (by kernel_rfl) (by kernel_rfl) (by kernel_rfl) (fun _ _ _ h => h) (Or.inl ⟨by rfl, ?_⟩) hHeld ?_; rotate_left; focus (intro wq hSw; obtain ⟨hcq, hfq⟩ := bcell hSw; go_simp; (try with_reducible rfl); done))
                    (try simp only [Act.put, List.setIfInBounds_toArray, List.set_cons_zero, List.set_cons_succ])
                    refine anyT_one 17 (by kernel_rfl) rfl (fun K hK => ?_)
                    go_simp
                    refine (works_calls _ (HM0.out.below (below_then H2x.out H2x.out.size hHeld))).mono ?_; rintro e x2 ⟨rfl, hb2⟩
                    refine hK.out _ _ ?_ (fun hHeld => ?_)
                    · exact below_then hHeld hHeld.size hb2
                    clear hK K
                    (try simp only [Act.put, List.setIfInBounds_toArray, List.set_cons_zero, List.set_cons_succ])
                    first | (refine anyT_take 18 (some 167) (v := ?_) rfl rfl (by kernel_rfl) (by kernel_rfl) (by kernel_rfl) (by kernel_rfl) (fun _ _ _ h => h) (Or.inl ⟨by rfl, ?_⟩) hHeld ?_; rotate_left; focus (intro wq hSw; obtain ⟨hcq, hfq⟩ := bcell hSw; go_simp; (try with_reducible rfl); done))
                    (try simp only [Act.put, List.setIfInBounds_toArray, List.set_cons_zero, List.set_cons_succ])
                    first | (refine anyT_take 19 (some 6) (v := ?_) rfl rfl (by kernel_rfl) (by kernel_rfl) (by kernel_rfl) (by kernel_rfl) (fun _ _ _ h => h) (Or.inl ⟨by rfl, ?_⟩) hHeld ?_; rotate_left; focus (intro wq hSw; obtain ⟨hcq, hfq⟩ := bcell hSw; go_simp; (try with_reducible rfl); done))
                    (try simp only [Act.put, List.setIfInBounds_toArray, List.set_cons_zero, List.set_cons_succ])
                    refine anyT_done (by kernel_rfl) ?_ _
                    go_wp2
                    go_ret
                    exact ⟨rfl, below_then H2x.out H2x.out.size hHeld⟩

              · as_aux_lemma =>
                  have hWd := wider_withLook B A8 c8 ⟨ma, mb, mc⟩
                  have hbt := hWd.between hcX bl
                  have hst := fun v hv => hWd.strength gX Hg.out who v hv
                  go_wp2_with fail
                  refine (eq0_2 (v' := (withLook B A8 c8 ⟨ma, mb, mc⟩).val) (by unfold ForgeV.val; rw [withLook_cells]) (Thick_calls (withLook B A8 c8 ⟨ma, mb, mc⟩) bl _ HX.out)).mono ?_
                  rintro e w10 ⟨rfl, hb⟩
                  rw [thick_at gX hcX (by have := Hbl.out; omega)]
                  have hun : underB (betweenS (withLook B A8 c8 ⟨ma, mb, mc⟩) bl).1 (betweenS (withLook B A8 c8 ⟨ma, mb, mc⟩) bl).2 lo hi = true := by
                    rw [Hlo.out, Hhi.out]
                    unfold underB
                    simp [hbt.1, hbt.2]
                  have Hun := Lib.hid hun
                  have Hst := Lib.hid hst
                  clear hbt hun hst
                  generalize (betweenS (withLook B A8 c8 ⟨ma, mb, mc⟩) bl).1 = lo2 at *
                  generalize (betweenS (withLook B A8 c8 ⟨ma, mb, mc⟩) bl).2 = hi2 at *
                  replace HX := Lib.hid (HX.out.below hb)
                  replace H2x := Lib.hid (below_then H2x.out H2x.out.size hb)
                  replace K20 := Lib.hid (K20.out.below hb)
                  replace K9x := Lib.hid (K9x.out.below hb)
                  replace Hl9x := Lib.hid (Hl9x.out.below hb)
                  clear hb c20 f20 l20
                  have Ha2 := Lib.hid ha2
                  clear ha1 ha2 hWd
                  go_upto_region 24 with (fail)
                  have hb : Below w10.heap.size w10 (w10.alloc (.cells #[.int .i64 lo2, .int .i64 hi2] 24)) := (Below.refl _ _).alloc (Nat.le_refl _) _
                  have k21 := BoxAt.new w10 #[.int .i64 lo2, .int .i64 hi2] 24
                  generalize World.alloc w10 _ = w11 at *
                  replace HX := Lib.hid (HX.out.below hb)
                  replace H2x := Lib.hid (below_then H2x.out H2x.out.size hb)
                  replace K20 := Lib.hid (K20.out.below hb)
                  replace K9x := Lib.hid (K9x.out.below hb)
                  replace Hl9x := Lib.hid (Hl9x.out.below hb)
                  generalize w10.heap.size = n21 at *
                  clear hb
                  obtain ⟨c20, f20, l20⟩ := K20.out
                  go_wp2_with fail
                  refine (eq0_2 (v' := (withLook B A8 c8 ⟨ma, mb, mc⟩).val) (by unfold ForgeV.val; rw [withLook_cells]) (Strength_calls (withLook B A8 c8 ⟨ma, mb, mc⟩) who _ HX.out)).mono ?_
                  rintro e w12 ⟨hs, hb⟩
                  obtain ⟨A23, rfl, hl23⟩ := strength_ok hs Ha2.out
                  replace H2x := Lib.hid (below_then H2x.out H2x.out.size hb)
                  replace K9x := Lib.hid (K9x.out.below hb)
                  replace Hl9x := Lib.hid (Hl9x.out.below hb)
                  have k21 := k21.below hb
                  have Hl23 := Lib.hid hl23
                  clear hb hs c20 f20 l20 hl23 HX
                  generalize strengthS (withLook B A8 c8 ⟨ma, mb, mc⟩) who = S2 at *
                  obtain ⟨c21, f21, l21⟩ := k21
                  obtain ⟨c9, f9, l9⟩ := K9x.out
                  go_upto_region 29 with (fail)
                  have Hz : Below w12.heap.size w12 w12 := Below.refl _ _
                  go_wp2_with (first
                    | (go_at_call 58; refine (Under_calls _ _ _ _ _).mono ?_; rintro e w' ⟨rfl, hb⟩; rw [Hun.out]; have Hz := below_then Hz Hz.size hb; replace Hl9x := Lib.hid (Hl9x.out.below hb); replace Hl23 := Lib.hid (Hl23.out.below hb); clear hb)
                    | (go_at_call 59; refine (all_calls _ _ _ _ _ _ _ Hl23.out Hl9x.out (fun v hv => by rw [HS.out]; exact Hst.out v hv)).mono ?_; rintro e w' ⟨rfl, rfl⟩)
                    | (go_at_call 27; refine (works_calls _ (HM0.out.below (below_then H2x.out H2x.out.size Hz))).mono ?_; rintro e w13 ⟨rfl, hb⟩; have Hz := below_then Hz Hz.size hb; clear hb))
                  go_ret
                  exact ⟨rfl, below_then H2x.out H2x.out.size Hz⟩

end
end Go.Proofs.YtgfbfbfajnfbjaaDoor
