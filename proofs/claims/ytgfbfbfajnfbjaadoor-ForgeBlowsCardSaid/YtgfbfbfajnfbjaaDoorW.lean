import Derived.Test.YtgfbfbfajnfbjaaDoorV
namespace Go.Proofs.YtgfbfbfajnfbjaaDoor
section
open Go.RowKit Go.Shelf
attribute [local go_sem] Oper.semAt_some
set_option linter.unusedSimpArgs false
set_option linter.unusedVariables false
def thickR (B : ForgeV) (n : Int) : Value := if askedE B (inB n 0 300) = 0 then .tuple #[.agg #[.int .i64 (betweenS B n).1, .int .i64 (betweenS B n).2], .int .i64 0] else .tuple #[.agg #[.int .i64 0, .int .i64 0], .int .i64 (askedE B (inB n 0 300))]
theorem askedE_zero {B : ForgeV} {r : Bool} (h : askedE B r = 0) : goodF B = true ∧ r = true ∧ canS B 0 = true := by
  unfold askedE at h
  revert h
  cases goodF B <;> cases r <;> cases canS B 0 <;> simp
set_option maxRecDepth 100000 in
set_option maxHeartbeats 4000000 in
theorem Thick_calls (B : ForgeV) (n : Int) (w : World) (hB : B.Reads w) :
    Calls Tryd.prog 33 #[B.val, .int .i64 n] w fun e w' => e = .returned (thickR B n) ∧ Below w.heap.size w w' := by
  have HB := Lib.hid hB
  have hR : Hid (thickR B n = if askedE B (inB n 0 300) = 0 then .tuple #[.agg #[.int .i64 (betweenS B n).1, .int .i64 (betweenS B n).2], .int .i64 0] else .tuple #[.agg #[.int .i64 0, .int .i64 0], .int .i64 (askedE B (inB n 0 300))]) := Lib.hid rfl
  have k2 := (BoxAt.new w B.cells 28).alloc (.cells #[.int .i64 0, .int .i64 0] 24)
  have k4 := BoxAt.new (w.alloc (.cells B.cells 28)) #[.int .i64 0, .int .i64 0] 24
  have Hb : Below w.heap.size w ((w.alloc (.cells B.cells 28)).alloc (.cells #[.int .i64 0, .int .i64 0] 24)) := ((Below.refl _ _).alloc (Nat.le_refl _) _).alloc (by simp) _
  rw [World.size_alloc] at k4
  clear hB
  unfold ForgeV.val
  unfold ForgeV.cells at k2 k4 Hb ⊢
  go_enter Tryd.func33, Tryd.ntmps33
  go_upto_region 1 with (fail)
  generalize (w.alloc _).alloc _ = W1 at *
  have hn4 : w.heap.size ≠ w.heap.size + 1 ∧ w.heap.size ≤ w.heap.size + 1 := by omega
  generalize w.heap.size + 1 = n4 at *
  have H1 := Lib.hid Hb
  have K4 := Lib.hid k4
  have Hn4 := Lib.hid hn4
  obtain ⟨c2, f2, l2⟩ := k2
  clear Hb k4 hn4
  by_cases he : askedE B (inB n 0 300) = 0
  · have hgr := askedE_zero he
    have hres : Hid (askedR B (inB n 0 300) = .tuple #[.agg #[.slice B.lA B.lots.length B.lCap, .int .i64 B.tlo, .int .i64 B.thi, .int .i64 B.thick, .int .i64 B.crack, .int .i64 B.glo, .int .i64 B.ghi, .slice B.sA B.thins.length B.sCap,
      .int .i64 B.hot, .int .i64 B.least, .int .i64 B.clo, .int .i64 B.chi, .int .i64 B.coal, .slice B.kA B.looks.length B.kCap], .int .i64 0]) := Lib.hid (by unfold askedR; rw [he]; rfl)
    have Hr := Lib.hid hgr
    have He := Lib.hid he
    clear he hgr
    apply region_told0 (S := fun w' => Below W1.heap.size W1 w') (F := fun m w' => W1.heap.size ≤ m ∧ BoxAt w' m B.cells ∧ Below W1.heap.size W1 w') 10 (by kernel_rfl)
    case k0 => exact (Below.refl _ _).drew
    case reg =>
      intro hHeld
      generalize hWd : World.drew W1 = Wd at *
      first | (refine anyT_take 0 (some 9) (v := ?_) rfl rfl (by kernel_rfl) (by kernel_rfl) (by kernel_rfl) (by kernel_rfl) (fun _ _ _ h => h) (Or.inl ⟨by rfl, ?_⟩) hHeld ?_; rotate_left; focus (intro wq hSw; obtain ⟨hcq, hfq⟩ := bcell hSw; go_simp; (try with_reducible rfl); done))
      (try simp only [Act.put, List.setIfInBounds_toArray, List.set_cons_zero, List.set_cons_succ])
      first | (refine anyT_take 1 (some 10) (v := ?_) rfl rfl (by kernel_rfl) (by kernel_rfl) (by kernel_rfl) (by kernel_rfl) (fun _ _ _ h => h) (Or.inl ⟨by rfl, ?_⟩) hHeld ?_; rotate_left; focus (intro wq hSw; obtain ⟨hcq, hfq⟩ := bcell hSw; go_simp; (try with_reducible rfl); done))
      (try simp only [Act.put, List.setIfInBounds_toArray, List.set_cons_zero, List.set_cons_succ])
      refine anyT_two 2 7 (by kernel_rfl) rfl rfl (fun K hK => ?_) (fun K hK => ?_)
      · go_simp
        refine (in_calls _ _ _ _).mono ?_; rintro e wx ⟨rfl, rfl⟩
        refine hK.out _ _ ?_ (fun hHeld => ?_)
        · exact hHeld
        clear hK K
        (try simp only [Act.put, List.setIfInBounds_toArray, List.set_cons_zero, List.set_cons_succ])
        refine anyT_two 3 7 (by kernel_rfl) rfl rfl (fun K hK => ?_) (fun K hK => ?_)
        · go_simp
          refine (eq0_2 (v' := B.val) (by unfold ForgeV.val ForgeV.cells; rfl) (asked_calls B _ _ (HB.out.below (below_then H1.out H1.out.size hHeld)))).mono ?_; rintro e w5 ⟨rfl, hb5⟩; (try replace k6 := k6.below hb5); rw [hres.out]
          refine hK.out _ _ ?_ (fun hHeld => ?_)
          · exact below_then hHeld hHeld.size hb5
          clear hK K
          (try simp only [Act.put, List.setIfInBounds_toArray, List.set_cons_zero, List.set_cons_succ])
          first | (refine anyT_take 4 (some 8) (v := ?_) rfl rfl (by kernel_rfl) (by kernel_rfl) (by kernel_rfl) (by kernel_rfl) (fun _ _ _ h => h) (Or.inl ⟨by rfl, ?_⟩) hHeld ?_; rotate_left; focus (intro wq hSw; obtain ⟨hcq, hfq⟩ := bcell hSw; go_simp; (try with_reducible rfl); done))
          (try simp only [Act.put, List.setIfInBounds_toArray, List.set_cons_zero, List.set_cons_succ])
          first | (refine anyT_take 5 (some 13) (v := ?_) rfl rfl (by kernel_rfl) (by kernel_rfl) (by kernel_rfl) (by kernel_rfl) (fun _ _ _ h => h) (Or.inl ⟨by rfl, ?_⟩) hHeld ?_; rotate_left; focus (intro wq hSw; obtain ⟨hcq, hfq⟩ := bcell hSw; go_simp; (try with_reducible rfl); done))
          (try simp only [Act.put, List.setIfInBounds_toArray, List.set_cons_zero, List.set_cons_succ])
          first | (refine anyT_take 6 (some 14) (v := ?_) rfl rfl (by kernel_rfl) (by kernel_rfl) (by kernel_rfl) (by kernel_rfl) (fun _ _ _ h => h) (Or.inl ⟨by rfl, ?_⟩) hHeld ?_; rotate_left; focus (intro wq hSw; obtain ⟨hcq, hfq⟩ := bcell hSw; go_simp; (try with_reducible rfl); done))
          (try simp only [Act.put, List.setIfInBounds_toArray, List.set_cons_zero, List.set_cons_succ])
          refine anyT_one 7 (by kernel_rfl) rfl (fun K hK => ?_)
          go_simp
          have hn6 := hHeld.size; first | (have k6 := BoxAt.new w5 zeroF 87; have hb6 : Below w5.heap.size w5 (w5.alloc (.cells zeroF 87)) := (Below.refl _ _).alloc (Nat.le_refl _) _; unfold zeroF at k6 hb6; generalize w5.alloc _ = W6 at *; have hS6 := below_then hHeld hHeld.size hb6; generalize w5.heap.size = n6 at *) | (have k6 := BoxAt.new Wd zeroF 87; have hb6 : Below Wd.heap.size Wd (Wd.alloc (.cells zeroF 87)) := (Below.refl _ _).alloc (Nat.le_refl _) _; unfold zeroF at k6 hb6; generalize Wd.alloc _ = W6 at *; have hS6 := below_then hHeld hHeld.size hb6; generalize Wd.heap.size = n6 at *)
          refine hK.out _ _ ?_ (fun hHeld => ?_)
          · exact hS6
          clear hK K
          (try simp only [Act.put, List.setIfInBounds_toArray, List.set_cons_zero, List.set_cons_succ])
          refine anyT_one 8 (by kernel_rfl) rfl (fun K hK => ?_)
          have k6' := k6; obtain ⟨c6, f6, l6⟩ := k6
          go_simp
          change K _ (putAll _ n6 0 B.cells.toList); have k9 := putAll_box k6' B.cells.toList rfl; have hS9 := hHeld.trans ((putAll_keep n6 B.cells.toList 0 _).below (fun k _ e => by omega) hHeld.size); generalize putAll _ n6 0 B.cells.toList = W9 at *
          refine hK.out _ _ ?_ (fun hHeld => ?_)
          · exact hS9
          clear hK K
          (try simp only [Act.put, List.setIfInBounds_toArray, List.set_cons_zero, List.set_cons_succ])
          first | (refine anyT_take 9 (some 7) (v := ?_) rfl rfl (by kernel_rfl) (by kernel_rfl) (by kernel_rfl) (by kernel_rfl) (fun _ _ _ h => h) (Or.inl ⟨by rfl, ?_⟩) hHeld ?_; rotate_left; focus (intro wq hSw; obtain ⟨hcq, hfq⟩ := bcell hSw; go_simp; (try with_reducible rfl); done))
          (try simp only [Act.put, List.setIfInBounds_toArray, List.set_cons_zero, List.set_cons_succ])
          refine anyT_done (by kernel_rfl) ?_ _
          exact ⟨n6, rfl, hn6, k9, hHeld⟩
        · go_simp
          have hn6 := hHeld.size; first | (have k6 := BoxAt.new w5 zeroF 87; have hb6 : Below w5.heap.size w5 (w5.alloc (.cells zeroF 87)) := (Below.refl _ _).alloc (Nat.le_refl _) _; unfold zeroF at k6 hb6; generalize w5.alloc _ = W6 at *; have hS6 := below_then hHeld hHeld.size hb6; generalize w5.heap.size = n6 at *) | (have k6 := BoxAt.new Wd zeroF 87; have hb6 : Below Wd.heap.size Wd (Wd.alloc (.cells zeroF 87)) := (Below.refl _ _).alloc (Nat.le_refl _) _; unfold zeroF at k6 hb6; generalize Wd.alloc _ = W6 at *; have hS6 := below_then hHeld hHeld.size hb6; generalize Wd.heap.size = n6 at *)
          refine hK.out _ _ ?_ (fun hHeld => ?_)
          · exact hS6
          clear hK K
          (try simp only [Act.put, List.setIfInBounds_toArray, List.set_cons_zero, List.set_cons_succ])
          refine anyT_one 3 (by kernel_rfl) rfl (fun K hK => ?_)
          go_simp
          refine (eq0_2 (v' := B.val) (by unfold ForgeV.val ForgeV.cells; rfl) (asked_calls B _ _ (HB.out.below (below_then H1.out H1.out.size hHeld)))).mono ?_; rintro e w5 ⟨rfl, hb5⟩; (try replace k6 := k6.below hb5); rw [hres.out]
          refine hK.out _ _ ?_ (fun hHeld => ?_)
          · exact below_then hHeld hHeld.size hb5
          clear hK K
          (try simp only [Act.put, List.setIfInBounds_toArray, List.set_cons_zero, List.set_cons_succ])
          first | (refine anyT_take 4 (some 8) (v := ?_) rfl rfl (by kernel_rfl) (by kernel_rfl) (by kernel_rfl) (by kernel_rfl) (fun _ _ _ h => h) (Or.inl ⟨by rfl, ?_⟩) hHeld ?_; rotate_left; focus (intro wq hSw; obtain ⟨hcq, hfq⟩ := bcell hSw; go_simp; (try with_reducible rfl); done))
          (try simp only [Act.put, List.setIfInBounds_toArray, List.set_cons_zero, List.set_cons_succ])
          first | (refine anyT_take 5 (some 13) (v := ?_) rfl rfl (by kernel_rfl) (by kernel_rfl) (by kernel_rfl) (by kernel_rfl) (fun _ _ _ h => h) (Or.inl ⟨by rfl, ?_⟩) hHeld ?_; rotate_left; focus (intro wq hSw; obtain ⟨hcq, hfq⟩ := bcell hSw; go_simp; (try with_reducible rfl); done))
          (try simp only [Act.put, List.setIfInBounds_toArray, List.set_cons_zero, List.set_cons_succ])
          first | (refine anyT_take 6 (some 14) (v := ?_) rfl rfl (by kernel_rfl) (by kernel_rfl) (by kernel_rfl) (by kernel_rfl) (fun _ _ _ h => h) (Or.inl ⟨by rfl, ?_⟩) hHeld ?_; rotate_left; focus (intro wq hSw; obtain ⟨hcq, hfq⟩ := bcell hSw; go_simp; (try with_reducible rfl); done))
          (try simp only [Act.put, List.setIfInBounds_toArray, List.set_cons_zero, List.set_cons_succ])
          refine anyT_one 8 (by kernel_rfl) rfl (fun K hK => ?_)
          have k6' := k6; obtain ⟨c6, f6, l6⟩ := k6
          go_simp
          change K _ (putAll _ n6 0 B.cells.toList); have k9 := putAll_box k6' B.cells.toList rfl; have hS9 := hHeld.trans ((putAll_keep n6 B.cells.toList 0 _).below (fun k _ e => by omega) hHeld.size); generalize putAll _ n6 0 B.cells.toList = W9 at *
          refine hK.out _ _ ?_ (fun hHeld => ?_)
          · exact hS9
          clear hK K
          (try simp only [Act.put, List.setIfInBounds_toArray, List.set_cons_zero, List.set_cons_succ])
          first | (refine anyT_take 9 (some 7) (v := ?_) rfl rfl (by kernel_rfl) (by kernel_rfl) (by kernel_rfl) (by kernel_rfl) (fun _ _ _ h => h) (Or.inl ⟨by rfl, ?_⟩) hHeld ?_; rotate_left; focus (intro wq hSw; obtain ⟨hcq, hfq⟩ := bcell hSw; go_simp; (try with_reducible rfl); done))
          (try simp only [Act.put, List.setIfInBounds_toArray, List.set_cons_zero, List.set_cons_succ])
          refine anyT_done (by kernel_rfl) ?_ _
          exact ⟨n6, rfl, hn6, k9, hHeld⟩
      · go_simp
        have hn6 := hHeld.size; first | (have k6 := BoxAt.new w5 zeroF 87; have hb6 : Below w5.heap.size w5 (w5.alloc (.cells zeroF 87)) := (Below.refl _ _).alloc (Nat.le_refl _) _; unfold zeroF at k6 hb6; generalize w5.alloc _ = W6 at *; have hS6 := below_then hHeld hHeld.size hb6; generalize w5.heap.size = n6 at *) | (have k6 := BoxAt.new Wd zeroF 87; have hb6 : Below Wd.heap.size Wd (Wd.alloc (.cells zeroF 87)) := (Below.refl _ _).alloc (Nat.le_refl _) _; unfold zeroF at k6 hb6; generalize Wd.alloc _ = W6 at *; have hS6 := below_then hHeld hHeld.size hb6; generalize Wd.heap.size = n6 at *)
        refine hK.out _ _ ?_ (fun hHeld => ?_)
        · exact hS6
        clear hK K
        (try simp only [Act.put, List.setIfInBounds_toArray, List.set_cons_zero, List.set_cons_succ])
        refine anyT_one 2 (by kernel_rfl) rfl (fun K hK => ?_)
        go_simp
        refine (in_calls _ _ _ _).mono ?_; rintro e wx ⟨rfl, rfl⟩
        refine hK.out _ _ ?_ (fun hHeld => ?_)
        · exact hHeld
        clear hK K
        (try simp only [Act.put, List.setIfInBounds_toArray, List.set_cons_zero, List.set_cons_succ])
        refine anyT_one 3 (by kernel_rfl) rfl (fun K hK => ?_)
        go_simp
        refine (eq0_2 (v' := B.val) (by unfold ForgeV.val ForgeV.cells; rfl) (asked_calls B _ _ (HB.out.below (below_then H1.out H1.out.size hHeld)))).mono ?_; rintro e w5 ⟨rfl, hb5⟩; (try replace k6 := k6.below hb5); rw [hres.out]
        refine hK.out _ _ ?_ (fun hHeld => ?_)
        · exact below_then hHeld hHeld.size hb5
        clear hK K
        (try simp only [Act.put, List.setIfInBounds_toArray, List.set_cons_zero, List.set_cons_succ])
        first | (refine anyT_take 4 (some 8) (v := ?_) rfl rfl (by kernel_rfl) (by kernel_rfl) (by kernel_rfl) (by kernel_rfl) (fun _ _ _ h => h) (Or.inl ⟨by rfl, ?_⟩) hHeld ?_; rotate_left; focus (intro wq hSw; obtain ⟨hcq, hfq⟩ := bcell hSw; go_simp; (try with_reducible rfl); done))
        (try simp only [Act.put, List.setIfInBounds_toArray, List.set_cons_zero, List.set_cons_succ])
        first | (refine anyT_take 5 (some 13) (v := ?_) rfl rfl (by kernel_rfl) (by kernel_rfl) (by kernel_rfl) (by kernel_rfl) (fun _ _ _ h => h) (Or.inl ⟨by rfl, ?_⟩) hHeld ?_; rotate_left; focus (intro wq hSw; obtain ⟨hcq, hfq⟩ := bcell hSw; go_simp; (try with_reducible rfl); done))
        (try simp only [Act.put, List.setIfInBounds_toArray, List.set_cons_zero, List.set_cons_succ])
        first | (refine anyT_take 6 (some 14) (v := ?_) rfl rfl (by kernel_rfl) (by kernel_rfl) (by kernel_rfl) (by kernel_rfl) (fun _ _ _ h => h) (Or.inl ⟨by rfl, ?_⟩) hHeld ?_; rotate_left; focus (intro wq hSw; obtain ⟨hcq, hfq⟩ := bcell hSw; go_simp; (try with_reducible rfl); done))
        (try simp only [Act.put, List.setIfInBounds_toArray, List.set_cons_zero, List.set_cons_succ])
        refine anyT_one 8 (by kernel_rfl) rfl (fun K hK => ?_)
        have k6' := k6; obtain ⟨c6, f6, l6⟩ := k6
        go_simp
        change K _ (putAll _ n6 0 B.cells.toList); have k9 := putAll_box k6' B.cells.toList rfl; have hS9 := hHeld.trans ((putAll_keep n6 B.cells.toList 0 _).below (fun k _ e => by omega) hHeld.size); generalize putAll _ n6 0 B.cells.toList = W9 at *
        refine hK.out _ _ ?_ (fun hHeld => ?_)
        · exact hS9
        clear hK K
        (try simp only [Act.put, List.setIfInBounds_toArray, List.set_cons_zero, List.set_cons_succ])
        first | (refine anyT_take 9 (some 7) (v := ?_) rfl rfl (by kernel_rfl) (by kernel_rfl) (by kernel_rfl) (by kernel_rfl) (fun _ _ _ h => h) (Or.inl ⟨by rfl, ?_⟩) hHeld ?_; rotate_left; focus (intro wq hSw; obtain ⟨hcq, hfq⟩ := bcell hSw; go_simp; (try with_reducible rfl); done))
        (try simp only [Act.put, List.setIfInBounds_toArray, List.set_cons_zero, List.set_cons_succ])
        refine anyT_done (by kernel_rfl) ?_ _
        exact ⟨n6, rfl, hn6, k9, hHeld⟩

    rintro n6 W5 ⟨hn6, k6, hb5⟩
    have H5 := below_then H1.out H1.out.size hb5
    have k4 := K4.out.below hb5
    have K4 := Lib.hid k4
    unfold ForgeV.cells at k6
    obtain ⟨c6, f6, l6⟩ := k6
    have hn := inB_iff.1 Hr.out.2.1
    have Hn := Lib.hid hn
    clear hn hb5 c2 f2 l2 k4
    go_wp2_with fail
    refine (eq0_2 (v' := B.val) (by unfold ForgeV.val ForgeV.cells; rfl) (between_calls B ((goodF_iff B).1 Hr.out.1) n Hn.out _ (HB.out.below H5))).mono ?_
    rintro e w7 ⟨rfl, hb7⟩
    have k7 := K4.out.below hb7
    obtain ⟨hs4, hbk⟩ := box_store2 k7 rfl (.int .i64 (betweenS B n).1) (.int .i64 (betweenS B n).2)
    have HF := Lib.hid ((below_then H5 H5.size hb7).trans (hbk w.heap.size Hn4.out.2))
    obtain ⟨c4, f4, l4⟩ := k7
    obtain ⟨c9, f9, l9⟩ := hs4
    clear hb7 hbk c6 f6 l6
    go_wp2
    refine bodyPost_ret (v := thickR B n) ?_ rfl ⟨rfl, HF.out⟩
    rw [results_cell_tmp Tryd.results33, hR.out, if_pos He.out]
    simp [go_sem, c9]
  · have hres : Hid (askedR B (inB n 0 300) = .tuple #[.agg #[.slice none 0 0, .int .i64 0, .int .i64 0, .int .i64 0, .int .i64 0, .int .i64 0, .int .i64 0, .slice none 0 0, .int .i64 0, .int .i64 0, .int .i64 0, .int .i64 0, .int .i64 0, .slice none 0 0], .int .i64 (askedE B (inB n 0 300))]) := Lib.hid (by unfold askedR; rw [if_neg he]; rfl)
    have He := Lib.hid he
    clear he
    generalize hq : askedE B (inB n 0 300) = q at *
    have hq0 : ¬ q = 0 := He.out
    clear hq
    apply region_told0 (S := fun w' => Below W1.heap.size W1 w') (F := fun m w' => W1.heap.size ≤ m ∧ BoxAt w' m zeroF ∧ Below W1.heap.size W1 w') 10 (by kernel_rfl)
    case k0 => exact (Below.refl _ _).drew
    case reg =>
      intro hHeld
      generalize hWd : World.drew W1 = Wd at *
      first | (refine anyT_take 0 (some 9) (v := ?_) rfl rfl (by kernel_rfl) (by kernel_rfl) (by kernel_rfl) (by kernel_rfl) (fun _ _ _ h => h) (Or.inl ⟨by rfl, ?_⟩) hHeld ?_; rotate_left; focus (intro wq hSw; obtain ⟨hcq, hfq⟩ := bcell hSw; go_simp; (try with_reducible rfl); done))
      (try simp only [Act.put, List.setIfInBounds_toArray, List.set_cons_zero, List.set_cons_succ])
      first | (refine anyT_take 1 (some 10) (v := ?_) rfl rfl (by kernel_rfl) (by kernel_rfl) (by kernel_rfl) (by kernel_rfl) (fun _ _ _ h => h) (Or.inl ⟨by rfl, ?_⟩) hHeld ?_; rotate_left; focus (intro wq hSw; obtain ⟨hcq, hfq⟩ := bcell hSw; go_simp; (try with_reducible rfl); done))
      (try simp only [Act.put, List.setIfInBounds_toArray, List.set_cons_zero, List.set_cons_succ])
      refine anyT_two 2 7 (by kernel_rfl) rfl rfl (fun K hK => ?_) (fun K hK => ?_)
      · go_simp
        refine (in_calls _ _ _ _).mono ?_; rintro e wx ⟨rfl, rfl⟩
        refine hK.out _ _ ?_ (fun hHeld => ?_)
        · exact hHeld
        clear hK K
        (try simp only [Act.put, List.setIfInBounds_toArray, List.set_cons_zero, List.set_cons_succ])
        refine anyT_two 3 7 (by kernel_rfl) rfl rfl (fun K hK => ?_) (fun K hK => ?_)
        · go_simp
          refine (eq0_2 (v' := B.val) (by unfold ForgeV.val ForgeV.cells; rfl) (asked_calls B _ _ (HB.out.below (below_then H1.out H1.out.size hHeld)))).mono ?_; rintro e w5 ⟨rfl, hb5⟩; (try replace k6 := k6.below hb5); rw [hres.out]
          refine hK.out _ _ ?_ (fun hHeld => ?_)
          · exact below_then hHeld hHeld.size hb5
          clear hK K
          (try simp only [Act.put, List.setIfInBounds_toArray, List.set_cons_zero, List.set_cons_succ])
          first | (refine anyT_take 4 (some 8) (v := ?_) rfl rfl (by kernel_rfl) (by kernel_rfl) (by kernel_rfl) (by kernel_rfl) (fun _ _ _ h => h) (Or.inl ⟨by rfl, ?_⟩) hHeld ?_; rotate_left; focus (intro wq hSw; obtain ⟨hcq, hfq⟩ := bcell hSw; go_simp; (try with_reducible rfl); done))
          (try simp only [Act.put, List.setIfInBounds_toArray, List.set_cons_zero, List.set_cons_succ])
          first | (refine anyT_take 5 (some 13) (v := ?_) rfl rfl (by kernel_rfl) (by kernel_rfl) (by kernel_rfl) (by kernel_rfl) (fun _ _ _ h => h) (Or.inl ⟨by rfl, ?_⟩) hHeld ?_; rotate_left; focus (intro wq hSw; obtain ⟨hcq, hfq⟩ := bcell hSw; go_simp; (try with_reducible rfl); done))
          (try simp only [Act.put, List.setIfInBounds_toArray, List.set_cons_zero, List.set_cons_succ])
          first | (refine anyT_take 6 (some 14) (v := ?_) rfl rfl (by kernel_rfl) (by kernel_rfl) (by kernel_rfl) (by kernel_rfl) (fun _ _ _ h => h) (Or.inl ⟨by rfl, ?_⟩) hHeld ?_; rotate_left; focus (intro wq hSw; obtain ⟨hcq, hfq⟩ := bcell hSw; go_simp; (try with_reducible rfl); done))
          (try simp only [Act.put, List.setIfInBounds_toArray, List.set_cons_zero, List.set_cons_succ])
          refine anyT_one 7 (by kernel_rfl) rfl (fun K hK => ?_)
          go_simp
          have hn6 := hHeld.size; first | (have k6 := BoxAt.new w5 zeroF 87; have hb6 : Below w5.heap.size w5 (w5.alloc (.cells zeroF 87)) := (Below.refl _ _).alloc (Nat.le_refl _) _; unfold zeroF at k6 hb6; generalize w5.alloc _ = W6 at *; have hS6 := below_then hHeld hHeld.size hb6; generalize w5.heap.size = n6 at *) | (have k6 := BoxAt.new Wd zeroF 87; have hb6 : Below Wd.heap.size Wd (Wd.alloc (.cells zeroF 87)) := (Below.refl _ _).alloc (Nat.le_refl _) _; unfold zeroF at k6 hb6; generalize Wd.alloc _ = W6 at *; have hS6 := below_then hHeld hHeld.size hb6; generalize Wd.heap.size = n6 at *)
          refine hK.out _ _ ?_ (fun hHeld => ?_)
          · exact hS6
          clear hK K
          (try simp only [Act.put, List.setIfInBounds_toArray, List.set_cons_zero, List.set_cons_succ])
          refine anyT_one 8 (by kernel_rfl) rfl (fun K hK => ?_)
          have k6' := k6; obtain ⟨c6, f6, l6⟩ := k6
          go_simp
          change K _ (putAll _ n6 0 zeroF.toList); have k9 := putAll_box k6' zeroF.toList rfl; have hS9 := hHeld.trans ((putAll_keep n6 zeroF.toList 0 _).below (fun k _ e => by omega) hHeld.size); generalize putAll _ n6 0 zeroF.toList = W9 at *
          refine hK.out _ _ ?_ (fun hHeld => ?_)
          · exact hS9
          clear hK K
          (try simp only [Act.put, List.setIfInBounds_toArray, List.set_cons_zero, List.set_cons_succ])
          first | (refine anyT_take 9 (some 7) (v := ?_) rfl rfl (by kernel_rfl) (by kernel_rfl) (by kernel_rfl) (by kernel_rfl) (fun _ _ _ h => h) (Or.inl ⟨by rfl, ?_⟩) hHeld ?_; rotate_left; focus (intro wq hSw; obtain ⟨hcq, hfq⟩ := bcell hSw; go_simp; (try with_reducible rfl); done))
          (try simp only [Act.put, List.setIfInBounds_toArray, List.set_cons_zero, List.set_cons_succ])
          refine anyT_done (by kernel_rfl) ?_ _
          exact ⟨n6, rfl, hn6, k9, hHeld⟩
        · go_simp
          have hn6 := hHeld.size; first | (have k6 := BoxAt.new w5 zeroF 87; have hb6 : Below w5.heap.size w5 (w5.alloc (.cells zeroF 87)) := (Below.refl _ _).alloc (Nat.le_refl _) _; unfold zeroF at k6 hb6; generalize w5.alloc _ = W6 at *; have hS6 := below_then hHeld hHeld.size hb6; generalize w5.heap.size = n6 at *) | (have k6 := BoxAt.new Wd zeroF 87; have hb6 : Below Wd.heap.size Wd (Wd.alloc (.cells zeroF 87)) := (Below.refl _ _).alloc (Nat.le_refl _) _; unfold zeroF at k6 hb6; generalize Wd.alloc _ = W6 at *; have hS6 := below_then hHeld hHeld.size hb6; generalize Wd.heap.size = n6 at *)
          refine hK.out _ _ ?_ (fun hHeld => ?_)
          · exact hS6
          clear hK K
          (try simp only [Act.put, List.setIfInBounds_toArray, List.set_cons_zero, List.set_cons_succ])
          refine anyT_one 3 (by kernel_rfl) rfl (fun K hK => ?_)
          go_simp
          refine (eq0_2 (v' := B.val) (by unfold ForgeV.val ForgeV.cells; rfl) (asked_calls B _ _ (HB.out.below (below_then H1.out H1.out.size hHeld)))).mono ?_; rintro e w5 ⟨rfl, hb5⟩; (try replace k6 := k6.below hb5); rw [hres.out]
          refine hK.out _ _ ?_ (fun hHeld => ?_)
          · exact below_then hHeld hHeld.size hb5
          clear hK K
          (try simp only [Act.put, List.setIfInBounds_toArray, List.set_cons_zero, List.set_cons_succ])
          first | (refine anyT_take 4 (some 8) (v := ?_) rfl rfl (by kernel_rfl) (by kernel_rfl) (by kernel_rfl) (by kernel_rfl) (fun _ _ _ h => h) (Or.inl ⟨by rfl, ?_⟩) hHeld ?_; rotate_left; focus (intro wq hSw; obtain ⟨hcq, hfq⟩ := bcell hSw; go_simp; (try with_reducible rfl); done))
          (try simp only [Act.put, List.setIfInBounds_toArray, List.set_cons_zero, List.set_cons_succ])
          first | (refine anyT_take 5 (some 13) (v := ?_) rfl rfl (by kernel_rfl) (by kernel_rfl) (by kernel_rfl) (by kernel_rfl) (fun _ _ _ h => h) (Or.inl ⟨by rfl, ?_⟩) hHeld ?_; rotate_left; focus (intro wq hSw; obtain ⟨hcq, hfq⟩ := bcell hSw; go_simp; (try with_reducible rfl); done))
          (try simp only [Act.put, List.setIfInBounds_toArray, List.set_cons_zero, List.set_cons_succ])
          first | (refine anyT_take 6 (some 14) (v := ?_) rfl rfl (by kernel_rfl) (by kernel_rfl) (by kernel_rfl) (by kernel_rfl) (fun _ _ _ h => h) (Or.inl ⟨by rfl, ?_⟩) hHeld ?_; rotate_left; focus (intro wq hSw; obtain ⟨hcq, hfq⟩ := bcell hSw; go_simp; (try with_reducible rfl); done))
          (try simp only [Act.put, List.setIfInBounds_toArray, List.set_cons_zero, List.set_cons_succ])
          refine anyT_one 8 (by kernel_rfl) rfl (fun K hK => ?_)
          have k6' := k6; obtain ⟨c6, f6, l6⟩ := k6
          go_simp
          change K _ (putAll _ n6 0 zeroF.toList); have k9 := putAll_box k6' zeroF.toList rfl; have hS9 := hHeld.trans ((putAll_keep n6 zeroF.toList 0 _).below (fun k _ e => by omega) hHeld.size); generalize putAll _ n6 0 zeroF.toList = W9 at *
          refine hK.out _ _ ?_ (fun hHeld => ?_)
          · exact hS9
          clear hK K
          (try simp only [Act.put, List.setIfInBounds_toArray, List.set_cons_zero, List.set_cons_succ])
          first | (refine anyT_take 9 (some 7) (v := ?_) rfl rfl (by kernel_rfl) (by kernel_rfl) (by kernel_rfl) (by kernel_rfl) (fun _ _ _ h => h) (Or.inl ⟨by rfl, ?_⟩) hHeld ?_; rotate_left; focus (intro wq hSw; obtain ⟨hcq, hfq⟩ := bcell hSw; go_simp; (try with_reducible rfl); done))
          (try simp only [Act.put, List.setIfInBounds_toArray, List.set_cons_zero, List.set_cons_succ])
          refine anyT_done (by kernel_rfl) ?_ _
          exact ⟨n6, rfl, hn6, k9, hHeld⟩
      · go_simp
        have hn6 := hHeld.size; first | (have k6 := BoxAt.new w5 zeroF 87; have hb6 : Below w5.heap.size w5 (w5.alloc (.cells zeroF 87)) := (Below.refl _ _).alloc (Nat.le_refl _) _; unfold zeroF at k6 hb6; generalize w5.alloc _ = W6 at *; have hS6 := below_then hHeld hHeld.size hb6; generalize w5.heap.size = n6 at *) | (have k6 := BoxAt.new Wd zeroF 87; have hb6 : Below Wd.heap.size Wd (Wd.alloc (.cells zeroF 87)) := (Below.refl _ _).alloc (Nat.le_refl _) _; unfold zeroF at k6 hb6; generalize Wd.alloc _ = W6 at *; have hS6 := below_then hHeld hHeld.size hb6; generalize Wd.heap.size = n6 at *)
        refine hK.out _ _ ?_ (fun hHeld => ?_)
        · exact hS6
        clear hK K
        (try simp only [Act.put, List.setIfInBounds_toArray, List.set_cons_zero, List.set_cons_succ])
        refine anyT_one 2 (by kernel_rfl) rfl (fun K hK => ?_)
        go_simp
        refine (in_calls _ _ _ _).mono ?_; rintro e wx ⟨rfl, rfl⟩
        refine hK.out _ _ ?_ (fun hHeld => ?_)
        · exact hHeld
        clear hK K
        (try simp only [Act.put, List.setIfInBounds_toArray, List.set_cons_zero, List.set_cons_succ])
        refine anyT_one 3 (by kernel_rfl) rfl (fun K hK => ?_)
        go_simp
        refine (eq0_2 (v' := B.val) (by unfold ForgeV.val ForgeV.cells; rfl) (asked_calls B _ _ (HB.out.below (below_then H1.out H1.out.size hHeld)))).mono ?_; rintro e w5 ⟨rfl, hb5⟩; (try replace k6 := k6.below hb5); rw [hres.out]
        refine hK.out _ _ ?_ (fun hHeld => ?_)
        · exact below_then hHeld hHeld.size hb5
        clear hK K
        (try simp only [Act.put, List.setIfInBounds_toArray, List.set_cons_zero, List.set_cons_succ])
        first | (refine anyT_take 4 (some 8) (v := ?_) rfl rfl (by kernel_rfl) (by kernel_rfl) (by kernel_rfl) (by kernel_rfl) (fun _ _ _ h => h) (Or.inl ⟨by rfl, ?_⟩) hHeld ?_; rotate_left; focus (intro wq hSw; obtain ⟨hcq, hfq⟩ := bcell hSw; go_simp; (try with_reducible rfl); done))
        (try simp only [Act.put, List.setIfInBounds_toArray, List.set_cons_zero, List.set_cons_succ])
        first | (refine anyT_take 5 (some 13) (v := ?_) rfl rfl (by kernel_rfl) (by kernel_rfl) (by kernel_rfl) (by kernel_rfl) (fun _ _ _ h => h) (Or.inl ⟨by rfl, ?_⟩) hHeld ?_; rotate_left; focus (intro wq hSw; obtain ⟨hcq, hfq⟩ := bcell hSw; go_simp; (try with_reducible rfl); done))
        (try simp only [Act.put, List.setIfInBounds_toArray, List.set_cons_zero, List.set_cons_succ])
        first | (refine anyT_take 6 (some 14) (v := ?_) rfl rfl (by kernel_rfl) (by kernel_rfl) (by kernel_rfl) (by kernel_rfl) (fun _ _ _ h => h) (Or.inl ⟨by rfl, ?_⟩) hHeld ?_; rotate_left; focus (intro wq hSw; obtain ⟨hcq, hfq⟩ := bcell hSw; go_simp; (try with_reducible rfl); done))
        (try simp only [Act.put, List.setIfInBounds_toArray, List.set_cons_zero, List.set_cons_succ])
        refine anyT_one 8 (by kernel_rfl) rfl (fun K hK => ?_)
        have k6' := k6; obtain ⟨c6, f6, l6⟩ := k6
        go_simp
        change K _ (putAll _ n6 0 zeroF.toList); have k9 := putAll_box k6' zeroF.toList rfl; have hS9 := hHeld.trans ((putAll_keep n6 zeroF.toList 0 _).below (fun k _ e => by omega) hHeld.size); generalize putAll _ n6 0 zeroF.toList = W9 at *
        refine hK.out _ _ ?_ (fun hHeld => ?_)
        · exact hS9
        clear hK K
        (try simp only [Act.put, List.setIfInBounds_toArray, List.set_cons_zero, List.set_cons_succ])
        first | (refine anyT_take 9 (some 7) (v := ?_) rfl rfl (by kernel_rfl) (by kernel_rfl) (by kernel_rfl) (by kernel_rfl) (fun _ _ _ h => h) (Or.inl ⟨by rfl, ?_⟩) hHeld ?_; rotate_left; focus (intro wq hSw; obtain ⟨hcq, hfq⟩ := bcell hSw; go_simp; (try with_reducible rfl); done))
        (try simp only [Act.put, List.setIfInBounds_toArray, List.set_cons_zero, List.set_cons_succ])
        refine anyT_done (by kernel_rfl) ?_ _
        exact ⟨n6, rfl, hn6, k9, hHeld⟩

    rintro n6 W5 ⟨hn6, k6, hb5⟩
    have H5 := below_then H1.out H1.out.size hb5
    have k4 := K4.out.below hb5
    have hs4 := box_store2 k4 rfl (.int .i64 0) (.int .i64 0)
    have HF := Lib.hid (H5.trans (hs4.2 w.heap.size Hn4.out.2))
    obtain ⟨c4, f4, l4⟩ := k4
    obtain ⟨c9, f9, l9⟩ := hs4.1
    clear hb5 c2 f2 l2 k6 hs4
    go_wp2
    refine bodyPost_ret (v := thickR B n) ?_ rfl ⟨rfl, HF.out⟩
    rw [results_cell_tmp Tryd.results33, hR.out, if_neg hq0]
    simp [go_sem, c9]
end
end Go.Proofs.YtgfbfbfajnfbjaaDoor
