/- PROVED: ForgeEnds (the walk): the law returns true, whatever the book and the numbers. -/
import Derived.Test.YtgfbfbfajnfbjaaDoorBP
import Derived.Test.YtgfbfbfajnfbjaaDoorBM
namespace Go.Proofs.YtgfbfbfajnfbjaaDoor
section
open Go.RowKit Go.Shelf
attribute [local go_sem] Oper.semAt_some
set_option linter.unusedSimpArgs false
set_option linter.unusedVariables false
theorem asked_good {B : ForgeV} (g : B.Good) : askedE B true = if canS B 0 = true then 0 else 22 := by
  unfold askedE
  rw [(goodF_iff B).2 g]
  cases canS B 0 <;> rfl
theorem thick_shape (B : ForgeV) (n : Int) : ∃ a b c, thickR B n = .tuple #[.agg #[.int .i64 a, .int .i64 b], .int .i64 c] := by
  unfold thickR
  split
  · exact ⟨_, _, _, rfl⟩
  · exact ⟨_, _, _, rfl⟩
theorem thick_can {B : ForgeV} (g : B.Good) (hc : canS B 0 = true) {n : Int} (h : 0 ≤ n ∧ n ≤ 300) : ∃ a b, thickR B n = .tuple #[.agg #[.int .i64 a, .int .i64 b], .int .i64 0] := ⟨_, _, thick_at g hc h⟩
theorem thick_not {B : ForgeV} (g : B.Good) (hc : canS B 0 = false) {n : Int} (h : 0 ≤ n ∧ n ≤ 300) : thickR B n = .tuple #[.agg #[.int .i64 0, .int .i64 0], .int .i64 22] := by
  have h0 : askedE B (inB n 0 300) = 22 := by rw [inB_iff.2 h, asked_good g, hc]; rfl
  unfold thickR
  rw [h0]; rfl
/-- the four ends that the law looks at -/
def endsL (lo hi : Int) : List Int := [lo, hi, lo - 1, hi + 1]
theorem ends_can {B : ForgeV} (g : B.Good) (hc : canS B 0 = true) (n : Int) (A : Option Addr) (c k : Nat) (hk : k < 4) : canS (withLook B A c ⟨n, gi (endsL (betweenS B n).1 (betweenS B n).2) k, 0⟩) 0 = decide (k < 2) := by
  obtain ⟨h1, h2, h3, _⟩ := between_ok hc n
  have h4 : k = 0 ∨ k = 1 ∨ k = 2 ∨ k = 3 := by omega
  rw [Bool.eq_iff_iff, can_withLook]
  simp only [Int.sub_zero, Int.add_zero]
  rcases h4 with rfl | rfl | rfl | rfl
  · obtain ⟨t, ht, e⟩ := h2
    refine ⟨fun _ => rfl, fun _ => ⟨t, ht, ?_⟩⟩
    rw [e]; exact ⟨Int.le_refl _, Int.le_refl _⟩
  · obtain ⟨t, ht, e⟩ := h3
    refine ⟨fun _ => rfl, fun _ => ⟨t, ht, ?_⟩⟩
    rw [e]; exact ⟨Int.le_refl _, Int.le_refl _⟩
  · refine ⟨fun ⟨t, ht, e1, e2⟩ => ?_, fun h => by simp at h⟩
    have := (h1 t ht).1
    simp only [endsL, gi, List.getD_cons_succ, List.getD_cons_zero] at e1 e2
    omega
  · refine ⟨fun ⟨t, ht, e1, e2⟩ => ?_, fun h => by simp at h⟩
    have := (h1 t ht).2
    simp only [endsL, gi, List.getD_cons_succ, List.getD_cons_zero] at e1 e2
    omega
set_option maxRecDepth 100000 in
set_option maxHeartbeats 8000000 in
theorem ForgeEnds_calls (B : ForgeV) (n0 n1 : Int) (w : World) (hB : B.Reads w) (hM : EndsAt w) :
    Calls Tryd.prog 12 #[B.val, .agg #[.int .i64 n0, .int .i64 n1]] w fun e w' => e = .returned (.bool true) ∧ Below w.heap.size w w' := by
  have HB0 := Lib.hid hB
  have HM0 := Lib.hid hM
  clear hB hM
  have hcells : B.val = .agg B.cells := rfl
  rw [hcells]
  unfold ForgeV.cells
  go_enter Tryd.func12, Tryd.ntmps12
  go_upto_region 1 with fail
  have k2 := (BoxAt.new w B.cells 28).alloc (.cells #[.int .i64 n0, .int .i64 n1] 47)
  have k3 := BoxAt.new (w.alloc (.cells B.cells 28)) #[.int .i64 n0, .int .i64 n1] 47
  have H1 : Below w.heap.size w ((w.alloc (.cells B.cells 28)).alloc (.cells #[.int .i64 n0, .int .i64 n1] 47)) := ((Below.refl _ _).alloc (Nat.le_refl _) _).alloc (by simp) _
  unfold ForgeV.cells at k2 k3 H1
  simp only [World.size_alloc] at k3
  generalize World.alloc (World.alloc w _) _ = w1 at *
  have hn3 : w.heap.size < w.heap.size + 1 := Nat.lt_succ_self _
  generalize w.heap.size + 1 = n3 at *
  have H2 := Lib.hid H1
  have K2 := Lib.hid k2
  have K3 := Lib.hid k3
  obtain ⟨c2, f2, l2⟩ := k2
  clear k3 H1
  go_wp2_with fail
  refine (eq0_1 (v' := B.val) (by unfold ForgeV.val ForgeV.cells; rfl) (sound_calls B _ (HB0.out.below H2.out))).mono ?_
  rintro e w2 ⟨rfl, hb⟩
  clear c2 f2 l2
  replace K2 := Lib.hid (K2.out.below hb)
  replace K3 := Lib.hid (K3.out.below hb)
  replace H2 := Lib.hid (below_then H2.out H2.out.size hb)
  clear hb
  cases hg : goodF B with
  | false =>
    go_wp2_with fail
    refine (works_calls _ (HM0.out.below H2.out)).mono ?_
    rintro e w3 ⟨rfl, hb⟩
    go_wp2
    go_ret
    exact ⟨rfl, below_then H2.out H2.out.size hb⟩
  | true =>
    have g := (goodF_iff B).1 hg
    have Hg := Lib.hid g
    clear hg g
    obtain ⟨c2, f2, l2⟩ := K2.out
    by_cases h8 : (B.looks.length : Int) = 8
    · have Hz := Lib.hid h8
      go_wp2_with fail
      refine (works_calls _ (HM0.out.below H2.out)).mono ?_
      rintro e w3 ⟨rfl, hb⟩
      go_wp2
      go_ret
      exact ⟨rfl, below_then H2.out H2.out.size hb⟩
    · go_upto_region 3 with (fail)
      have hl7 : B.looks.length < 8 := by have := Hg.out.looksLen; omega
      clear h8
      obtain ⟨c3, f3, l3⟩ := K3.out
      refine region_plain (S := fun w' => Below w2.heap.size w2 w') 8 (by kernel_rfl) ?_ (fun hHeld => ?_)
      · exact (Below.refl _ _).drew
      first | (refine anyT_take 0 (some 30) (v := ?_) rfl rfl (by kernel_rfl) (by kernel_rfl) (by kernel_rfl) (by kernel_rfl) (fun _ _ _ h => h) (Or.inl ⟨by rfl, ?_⟩) hHeld ?_; rotate_left; focus (intro wq hSw; obtain ⟨hcq, hfq⟩ := bcell hSw; go_simp; (try with_reducible rfl); done))
      (try simp only [Act.put, List.setIfInBounds_toArray, List.set_cons_zero, List.set_cons_succ])
      first | (refine anyT_take 1 (some 31) (v := ?_) rfl rfl (by kernel_rfl) (by kernel_rfl) (by kernel_rfl) (by kernel_rfl) (fun _ _ _ h => h) (Or.inl ⟨by rfl, ?_⟩) hHeld ?_; rotate_left; focus (intro wq hSw; obtain ⟨hcq, hfq⟩ := bcell hSw; go_simp; (try with_reducible rfl); done))
      (try simp only [Act.put, List.setIfInBounds_toArray, List.set_cons_zero, List.set_cons_succ])
      first | (refine anyT_take 3 (some 33) (v := ?_) rfl rfl (by kernel_rfl) (by kernel_rfl) (by kernel_rfl) (by kernel_rfl) (fun _ _ _ h => h) (Or.inl ⟨by rfl, ?_⟩) hHeld ?_; rotate_left; focus (intro wq hSw; obtain ⟨hcq, hfq⟩ := bcell hSw; go_simp; (try with_reducible rfl); done))
      (try simp only [Act.put, List.setIfInBounds_toArray, List.set_cons_zero, List.set_cons_succ])
      first | (refine anyT_take 4 (some 34) (v := ?_) rfl rfl (by kernel_rfl) (by kernel_rfl) (by kernel_rfl) (by kernel_rfl) (fun _ _ _ h => h) (Or.inl ⟨by rfl, ?_⟩) hHeld ?_; rotate_left; focus (intro wq hSw; obtain ⟨hcq, hfq⟩ := bcell hSw; go_simp; (try with_reducible rfl); done))
      (try simp only [Act.put, List.setIfInBounds_toArray, List.set_cons_zero, List.set_cons_succ])
      refine anyT_one 2 (by kernel_rfl) rfl (fun K hK => ?_)
      go_simp
      refine (Turn_calls _ _ _ (by decide)).mono ?_; rintro e x1 ⟨rfl, rfl⟩
      refine hK.out _ _ ?_ (fun hHeld => ?_)
      · exact hHeld
      clear hK K
      (try simp only [Act.put, List.setIfInBounds_toArray, List.set_cons_zero, List.set_cons_succ])
      refine anyT_one 5 (by kernel_rfl) rfl (fun K hK => ?_)
      go_simp
      refine (Turn_calls _ _ _ (by decide)).mono ?_; rintro e x2 ⟨rfl, rfl⟩
      refine hK.out _ _ ?_ (fun hHeld => ?_)
      · exact hHeld
      clear hK K
      (try simp only [Act.put, List.setIfInBounds_toArray, List.set_cons_zero, List.set_cons_succ])
      first | (refine anyT_take 6 (some 5) (v := ?_) rfl rfl (by kernel_rfl) (by kernel_rfl) (by kernel_rfl) (by kernel_rfl) (fun _ _ _ h => h) (Or.inl ⟨by rfl, ?_⟩) hHeld ?_; rotate_left; focus (intro wq hSw; obtain ⟨hcq, hfq⟩ := bcell hSw; go_simp; (try with_reducible rfl); done))
      (try simp only [Act.put, List.setIfInBounds_toArray, List.set_cons_zero, List.set_cons_succ])
      first | (refine anyT_take 7 (some 6) (v := ?_) rfl rfl (by kernel_rfl) (by kernel_rfl) (by kernel_rfl) (by kernel_rfl) (fun _ _ _ h => h) (Or.inl ⟨by rfl, ?_⟩) hHeld ?_; rotate_left; focus (intro wq hSw; obtain ⟨hcq, hfq⟩ := bcell hSw; go_simp; (try with_reducible rfl); done))
      (try simp only [Act.put, List.setIfInBounds_toArray, List.set_cons_zero, List.set_cons_succ])
      refine anyT_done (by kernel_rfl) ?_ _
      have hbl := turnZ_bd (n := n0) (b := 301) (by decide)
      have hwb := turnZ_bd (n := n1) (b := 3) (by decide)
      obtain ⟨who, hwho⟩ : ∃ k : Nat, turnZ n1 3 = (k : Int) := ⟨(turnZ n1 3).toNat, by omega⟩
      rw [hwho] at hwb ⊢
      clear hwho
      have hw3 : who < 3 := by omega
      generalize turnZ n0 301 = bl at *
      replace H2 := Lib.hid (below_then H2.out H2.out.size hHeld)
      replace K2 := Lib.hid (K2.out.below hHeld)
      clear K3 c2 f2 l2 c3 f3 l3 hHeld hwb
      obtain ⟨c2, f2, l2⟩ := K2.out
      go_wp2_with fail
      refine (eq0_2 (v' := B.val) (by unfold ForgeV.val ForgeV.cells; rfl) (Thick_calls B bl _ (HB0.out.below H2.out))).mono ?_
      rintro e w3 ⟨rfl, hb⟩
      replace H2 := Lib.hid (below_then H2.out H2.out.size hb)
      replace K2 := Lib.hid (K2.out.below hb)
      clear hb c2 f2 l2
      cases hc : canS B 0 with
      | false =>
        as_aux_lemma =>
          rw [thick_not Hg.out hc (by omega)]
          go_upto_region 5 with (fail)
          have hb : Below w3.heap.size w3 (w3.alloc (.cells #[.int .i64 0, .int .i64 0] 24)) := (Below.refl _ _).alloc (Nat.le_refl _) _
          have k7 := BoxAt.new w3 #[.int .i64 0, .int .i64 0] 24
          generalize World.alloc w3 _ = w4 at *
          replace H2 := Lib.hid (below_then H2.out H2.out.size hb)
          replace K2 := Lib.hid (K2.out.below hb)
          generalize w3.heap.size = n7 at *
          clear hb
          obtain ⟨c2, f2, l2⟩ := K2.out
          go_wp2_with fail
          refine (eq0_2 (v' := B.val) (by unfold ForgeV.val ForgeV.cells; rfl) (Strength_calls B who _ (HB0.out.below H2.out))).mono ?_
          rintro e w5 ⟨hs, hb⟩
          have ha : askedE B (inB who 0 2) = 22 := by rw [inB_iff.2 (by omega), asked_good Hg.out, hc]; rfl
          obtain ⟨_, rfl⟩ : askedE B (inB who 0 2) ≠ 0 ∧ e = .returned (.tuple #[.slice none 0 0, .int .i64 22]) := by
            rcases hs with ⟨h1, h2⟩ | ⟨h1, _⟩
            · rw [ha] at h2; exact ⟨h1, h2⟩
            · rw [ha] at h1; cases h1
          clear hs
          replace H2 := Lib.hid (below_then H2.out H2.out.size hb)
          have K7 := Lib.hid (k7.below hb)
          clear hb c2 f2 l2 k7
          obtain ⟨c7, f7, l7⟩ := K7.out
          go_upto_region 7 with (fail)
          refine region_plain (S := fun w' => Below w5.heap.size w5 w') 21 (by kernel_rfl) ?_ (fun hHeld => ?_)
          · exact (Below.refl _ _).drew
          first | (refine anyT_take 0 (some 55) (v := ?_) rfl rfl (by kernel_rfl) (by kernel_rfl) (by kernel_rfl) (by kernel_rfl) (fun _ _ _ h => h) (Or.inl ⟨by rfl, ?_⟩) hHeld ?_; rotate_left; focus (intro wq hSw; obtain ⟨hcq, hfq⟩ := bcell hSw; go_simp; (try with_reducible rfl); done))
          (try simp only [Act.put, List.setIfInBounds_toArray, List.set_cons_zero, List.set_cons_succ])
          first | (refine anyT_take 1 (some 56) (v := ?_) rfl rfl (by kernel_rfl) (by kernel_rfl) (by kernel_rfl) (by kernel_rfl) (fun _ _ _ h => h) (Or.inl ⟨by rfl, ?_⟩) hHeld ?_; rotate_left; focus (intro wq hSw; obtain ⟨hcq, hfq⟩ := bcell hSw; go_simp; (try with_reducible rfl); done))
          (try simp only [Act.put, List.setIfInBounds_toArray, List.set_cons_zero, List.set_cons_succ])
          first | (refine anyT_take 2 (some 57) (v := ?_) rfl rfl (by kernel_rfl) (by kernel_rfl) (by kernel_rfl) (by kernel_rfl) (fun _ _ _ h => h) (Or.inl ⟨by rfl, ?_⟩) hHeld ?_; rotate_left; focus (intro wq hSw; obtain ⟨hcq, hfq⟩ := bcell hSw; go_simp; (try with_reducible rfl); done))
          (try simp only [Act.put, List.setIfInBounds_toArray, List.set_cons_zero, List.set_cons_succ])
          first | (refine anyT_take 3 (some 58) (v := ?_) rfl rfl (by kernel_rfl) (by kernel_rfl) (by kernel_rfl) (by kernel_rfl) (fun _ _ _ h => h) (Or.inl ⟨by rfl, ?_⟩) hHeld ?_; rotate_left; focus (intro wq hSw; obtain ⟨hcq, hfq⟩ := bcell hSw; go_simp; (try with_reducible rfl); done))
          (try simp only [Act.put, List.setIfInBounds_toArray, List.set_cons_zero, List.set_cons_succ])
          first | (refine anyT_take 4 (some 59) rfl rfl (by kernel_rfl) (by kernel_rfl) (by kernel_rfl) (by kernel_rfl) (fun _ _ _ h => h) (Or.inr ⟨by rfl, rfl⟩) hHeld ?_) | (refine anyT_take 4 (some 59) (v := ?_) rfl rfl (by kernel_rfl) (by kernel_rfl) (by kernel_rfl) (by kernel_rfl) (fun _ _ _ h => h) (Or.inl ⟨by rfl, ?_⟩) hHeld ?_; rotate_left; focus (intro wq hSw; obtain ⟨hcq, hfq⟩ := bcell hSw; go_simp; (try with_reducible rfl); done))
          (try simp only [Act.put, List.setIfInBounds_toArray, List.set_cons_zero, List.set_cons_succ])
          first | (refine anyT_take 5 (some 60) rfl rfl (by kernel_rfl) (by kernel_rfl) (by kernel_rfl) (by kernel_rfl) (fun _ _ _ h => h) (Or.inr ⟨by rfl, rfl⟩) hHeld ?_) | (refine anyT_take 5 (some 60) (v := ?_) rfl rfl (by kernel_rfl) (by kernel_rfl) (by kernel_rfl) (by kernel_rfl) (fun _ _ _ h => h) (Or.inl ⟨by rfl, ?_⟩) hHeld ?_; rotate_left; focus (intro wq hSw; obtain ⟨hcq, hfq⟩ := bcell hSw; go_simp; (try with_reducible rfl); done))
          (try simp only [Act.put, List.setIfInBounds_toArray, List.set_cons_zero, List.set_cons_succ])
          first | (refine anyT_take 6 (some 61) (v := ?_) rfl rfl (by kernel_rfl) (by kernel_rfl) (by kernel_rfl) (by kernel_rfl) (fun _ _ _ h => h) (Or.inl ⟨by rfl, ?_⟩) hHeld ?_; rotate_left; focus (intro wq hSw; obtain ⟨hcq, hfq⟩ := bcell hSw; go_simp; (try with_reducible rfl); done))
          (try simp only [Act.put, List.setIfInBounds_toArray, List.set_cons_zero, List.set_cons_succ])
          first | (refine anyT_take 7 (some 62) (v := ?_) rfl rfl (by kernel_rfl) (by kernel_rfl) (by kernel_rfl) (by kernel_rfl) (fun _ _ _ h => h) (Or.inl ⟨by rfl, ?_⟩) hHeld ?_; rotate_left; focus (intro wq hSw; obtain ⟨hcq, hfq⟩ := bcell hSw; go_simp; (try with_reducible rfl); done))
          (try simp only [Act.put, List.setIfInBounds_toArray, List.set_cons_zero, List.set_cons_succ])
          first | (refine anyT_take 8 (some 63) rfl rfl (by kernel_rfl) (by kernel_rfl) (by kernel_rfl) (by kernel_rfl) (fun _ _ _ h => h) (Or.inr ⟨by rfl, rfl⟩) hHeld ?_) | (refine anyT_take 8 (some 63) (v := ?_) rfl rfl (by kernel_rfl) (by kernel_rfl) (by kernel_rfl) (by kernel_rfl) (fun _ _ _ h => h) (Or.inl ⟨by rfl, ?_⟩) hHeld ?_; rotate_left; focus (intro wq hSw; obtain ⟨hcq, hfq⟩ := bcell hSw; go_simp; (try with_reducible rfl); done))
          (try simp only [Act.put, List.setIfInBounds_toArray, List.set_cons_zero, List.set_cons_succ])
          refine anyT_one 9 (by kernel_rfl) rfl (fun K hK => ?_)
          go_simp
          refine (Band_calls _ _ _).mono ?_; rintro e x1 ⟨rfl, hb1⟩
          refine hK.out _ _ ?_ (fun hHeld => ?_)
          · exact below_then hHeld hHeld.size hb1
          clear hK K
          (try simp only [Act.put, List.setIfInBounds_toArray, List.set_cons_zero, List.set_cons_succ])
          first | (refine anyT_take 10 (some 65) rfl rfl (by kernel_rfl) (by kernel_rfl) (by kernel_rfl) (by kernel_rfl) (fun _ _ _ h => h) (Or.inr ⟨by rfl, rfl⟩) hHeld ?_) | (refine anyT_take 10 (some 65) (v := ?_) rfl rfl (by kernel_rfl) (by kernel_rfl) (by kernel_rfl) (by kernel_rfl) (fun _ _ _ h => h) (Or.inl ⟨by rfl, ?_⟩) hHeld ?_; rotate_left; focus (intro wq hSw; obtain ⟨hcq, hfq⟩ := bcell hSw; go_simp; (try with_reducible rfl); done))
          (try simp only [Act.put, List.setIfInBounds_toArray, List.set_cons_zero, List.set_cons_succ])
          first | (refine anyT_take 11 (some 66) (v := ?_) rfl rfl (by kernel_rfl) (by kernel_rfl) (by kernel_rfl) (by kernel_rfl) (fun _ _ _ h => h) (Or.inl ⟨by rfl, ?_⟩) hHeld ?_; rotate_left; focus (intro wq hSw; obtain ⟨hcq, hfq⟩ := bcell hSw; go_simp; (try with_reducible rfl); done))
          (try simp only [Act.put, List.setIfInBounds_toArray, List.set_cons_zero, List.set_cons_succ])
          first | (refine anyT_take 12 (some 67) (v := ?_) rfl rfl (by kernel_rfl) (by kernel_rfl) (by kernel_rfl) (by kernel_rfl) (fun _ _ _ h => h) (Or.inl ⟨by rfl, ?_⟩) hHeld ?_; rotate_left; focus (intro wq hSw; obtain ⟨hcq, hfq⟩ := bcell hSw; go_simp; (try with_reducible rfl); done))
          (try simp only [Act.put, List.setIfInBounds_toArray, List.set_cons_zero, List.set_cons_succ])
          first | (refine anyT_take 13 (some 68) rfl rfl (by kernel_rfl) (by kernel_rfl) (by kernel_rfl) (by kernel_rfl) (fun _ _ _ h => h) (Or.inr ⟨by rfl, rfl⟩) hHeld ?_) | (refine anyT_take 13 (some 68) (v := ?_) rfl rfl (by kernel_rfl) (by kernel_rfl) (by kernel_rfl) (by kernel_rfl) (fun _ _ _ h => h) (Or.inl ⟨by rfl, ?_⟩) hHeld ?_; rotate_left; focus (intro wq hSw; obtain ⟨hcq, hfq⟩ := bcell hSw; go_simp; (try with_reducible rfl); done))
          (try simp only [Act.put, List.setIfInBounds_toArray, List.set_cons_zero, List.set_cons_succ])
          first | (refine anyT_take 14 (some 69) rfl rfl (by kernel_rfl) (by kernel_rfl) (by kernel_rfl) (by kernel_rfl) (fun _ _ _ h => h) (Or.inr ⟨by rfl, rfl⟩) hHeld ?_) | (refine anyT_take 14 (some 69) (v := ?_) rfl rfl (by kernel_rfl) (by kernel_rfl) (by kernel_rfl) (by kernel_rfl) (fun _ _ _ h => h) (Or.inl ⟨by rfl, ?_⟩) hHeld ?_; rotate_left; focus (intro wq hSw; obtain ⟨hcq, hfq⟩ := bcell hSw; go_simp; (try with_reducible rfl); done))
          (try simp only [Act.put, List.setIfInBounds_toArray, List.set_cons_zero, List.set_cons_succ])
          first | (refine anyT_take 15 (some 70) rfl rfl (by kernel_rfl) (by kernel_rfl) (by kernel_rfl) (by kernel_rfl) (fun _ _ _ h => h) (Or.inr ⟨by rfl, rfl⟩) hHeld ?_) | (refine anyT_take 15 (some 70) (v := ?_) rfl rfl (by kernel_rfl) (by kernel_rfl) (by kernel_rfl) (by kernel_rfl) (fun _ _ _ h => h) (Or.inl ⟨by rfl, ?_⟩) hHeld ?_; rotate_left; focus (intro wq hSw; obtain ⟨hcq, hfq⟩ := bcell hSw; go_simp; (try with_reducible rfl); done))
          (try simp only [Act.put, List.setIfInBounds_toArray, List.set_cons_zero, List.set_cons_succ])
          first | (refine anyT_take 16 (some 71) (v := ?_) rfl rfl (by kernel_rfl) (by kernel_rfl) (by kernel_rfl) (by kernel_rfl) (fun _ _ _ h => h) (Or.inl ⟨by rfl, ?_⟩) hHeld ?_; rotate_left; focus (intro wq hSw; obtain ⟨hcq, hfq⟩ := bcell hSw; go_simp; (try with_reducible rfl); done))
          (try simp only [Act.put, List.setIfInBounds_toArray, List.set_cons_zero, List.set_cons_succ])
          first | (refine anyT_take 17 (some 72) (v := ?_) rfl rfl (by kernel_rfl) (by kernel_rfl) (by kernel_rfl) (by kernel_rfl) (fun _ _ _ h => h) (Or.inl ⟨by rfl, ?_⟩) hHeld ?_; rotate_left; focus (intro wq hSw; obtain ⟨hcq, hfq⟩ := bcell hSw; go_simp; (try with_reducible rfl); done))
          (try simp only [Act.put, List.setIfInBounds_toArray, List.set_cons_zero, List.set_cons_succ])
          refine anyT_one 18 (by kernel_rfl) rfl (fun K hK => ?_)
          go_simp
          refine (works_calls _ (HM0.out.below (below_then H2.out H2.out.size hHeld))).mono ?_; rintro e x2 ⟨rfl, hb2⟩
          refine hK.out _ _ ?_ (fun hHeld => ?_)
          · exact below_then hHeld hHeld.size hb2
          clear hK K
          (try simp only [Act.put, List.setIfInBounds_toArray, List.set_cons_zero, List.set_cons_succ])
          first | (refine anyT_take 19 (some 74) (v := ?_) rfl rfl (by kernel_rfl) (by kernel_rfl) (by kernel_rfl) (by kernel_rfl) (fun _ _ _ h => h) (Or.inl ⟨by rfl, ?_⟩) hHeld ?_; rotate_left; focus (intro wq hSw; obtain ⟨hcq, hfq⟩ := bcell hSw; go_simp; (try with_reducible rfl); done))
          (try simp only [Act.put, List.setIfInBounds_toArray, List.set_cons_zero, List.set_cons_succ])
          first | (refine anyT_take 20 (some 4) (v := ?_) rfl rfl (by kernel_rfl) (by kernel_rfl) (by kernel_rfl) (by kernel_rfl) (fun _ _ _ h => h) (Or.inl ⟨by rfl, ?_⟩) hHeld ?_; rotate_left; focus (intro wq hSw; obtain ⟨hcq, hfq⟩ := bcell hSw; go_simp; (try with_reducible rfl); done))
          (try simp only [Act.put, List.setIfInBounds_toArray, List.set_cons_zero, List.set_cons_succ])
          refine anyT_done (by kernel_rfl) ?_ _
          go_wp2
          go_ret
          exact ⟨rfl, below_then H2.out H2.out.size hHeld⟩
      | true =>
        have hcan := fun (A : Option Addr) (c k : Nat) (hk : k < 4) => ends_can Hg.out hc bl A c k hk
        have hbd := between_bd Hg.out hc (n := bl) (by omega)
        rw [thick_at Hg.out hc (by omega)]
        generalize (betweenS B bl).1 = lo at *
        generalize (betweenS B bl).2 = hi at *
        have Hcan := Lib.hid hcan
        have Hbl := Lib.hid hbl
        have Hc0 := Lib.hid hc
        clear hcan
        go_upto_region 5 with (fail)
        have hb : Below w3.heap.size w3 (w3.alloc (.cells #[.int .i64 lo, .int .i64 hi] 24)) := (Below.refl _ _).alloc (Nat.le_refl _) _
        have k7 := BoxAt.new w3 #[.int .i64 lo, .int .i64 hi] 24
        generalize World.alloc w3 _ = w4 at *
        replace H2 := Lib.hid (below_then H2.out H2.out.size hb)
        replace K2 := Lib.hid (K2.out.below hb)
        generalize w3.heap.size = n7 at *
        clear hb
        obtain ⟨c2, f2, l2⟩ := K2.out
        go_wp2_with fail
        refine (eq0_2 (v' := B.val) (by unfold ForgeV.val ForgeV.cells; rfl) (Strength_calls B who _ (HB0.out.below H2.out))).mono ?_
        rintro e w5 ⟨hs, hb⟩
        have ha : askedE B (inB who 0 2) = 0 := by rw [inB_iff.2 (by omega), asked_good Hg.out, hc]; rfl
        obtain ⟨A9, rfl, hl9⟩ : ∃ A, e = .returned (.tuple #[.slice A (strengthS B who).length (strengthS B who).length, .int .i64 0]) ∧ IntsAt w5 A (strengthS B who) := by
          rcases hs with ⟨h1, h2⟩ | ⟨_, h2⟩
          · exact absurd ha h1
          · exact h2
        clear hs hc
        replace H2 := Lib.hid (below_then H2.out H2.out.size hb)
        replace K2 := Lib.hid (K2.out.below hb)
        have K7 := Lib.hid (k7.below hb)
        have Hl9 := Lib.hid hl9
        clear hb c2 f2 l2 k7 hl9 ha
        generalize hS : strengthS B who = S at *
        have HS := Lib.hid hS
        clear hS
        obtain ⟨c7, f7, l7⟩ := K7.out
        have hw1 : IntKind.i64.wrap (lo - 1) = lo - 1 := wrap_in (by omega) (by omega)
        have hw2 : IntKind.i64.wrap (hi + 1) = hi + 1 := wrap_in (by omega) (by omega)
        go_upto_block 0 with (fail)
        have hb : Below w5.heap.size w5 (w5.alloc (.cells #[.int .i64 lo, .int .i64 hi, .int .i64 (lo - 1), .int .i64 (hi + 1)] 3)) := (Below.refl _ _).alloc (Nat.le_refl _) _
        have k11 := BoxAt.new w5 #[.int .i64 lo, .int .i64 hi, .int .i64 (lo - 1), .int .i64 (hi + 1)] 3
        generalize World.alloc w5 _ = w6 at *
        replace H2 := Lib.hid (below_then H2.out H2.out.size hb)
        replace K2 := Lib.hid (K2.out.below hb)
        replace Hl9 := Lib.hid (Hl9.out.below hb)
        generalize w5.heap.size = n11 at *
        have K11 := Lib.hid k11
        have Hbd := Lib.hid hbd
        clear hb K7 c7 f7 l7 hw1 hw2 k11 hbd hbl
        go_cut [12] (fun i wn => Below w6.heap.size w6 wn)
        case first =>
          as_aux_lemma =>
            go_wp2
            go_loopg [12] 4 (fun gq i wr => ∃ k : Nat, k ≤ 4 ∧ gq = 4 - k ∧ i = .int .i64 k ∧ Below w6.heap.size w6 wr)
            case atStart => exact ⟨0, Nat.zero_le _, rfl, rfl, Below.refl _ _⟩
            case round =>
              obtain ⟨k, hk, hgk, rfl, hBe⟩ := hrel
              have HBe := Lib.hid hBe
              have Hgk := Lib.hid hgk
              clear hgk
              by_cases hlt : k < 4
              · have hki : (k : Int) < 4 := by omega
                have p0 : wr.cell? ⟨n11, k, none⟩ = some (.int .i64 (gi (endsL lo hi) k)) := by
                  refine ((K11.out.below hBe).cell k).trans ?_
                  have h4 : k = 0 ∨ k = 1 ∨ k = 2 ∨ k = 3 := by omega
                  rcases h4 with rfl | rfl | rfl | rfl <;> rfl
                have hv : -6061 ≤ gi (endsL lo hi) k ∧ gi (endsL lo hi) k ≤ 3001 := by
                  have h4 : k = 0 ∨ k = 1 ∨ k = 2 ∨ k = 3 := by omega
                  have := Hbd.out
                  rcases h4 with rfl | rfl | rfl | rfl <;> simp only [endsL, gi, List.getD_cons_succ, List.getD_cons_zero] <;> omega
                have hck := fun (A : Option Addr) (c : Nat) => Hcan.out A c k hlt
                have Hck := Lib.hid hck
                have b11 := (K11.out.below hBe).lt
                clear hck hBe
                generalize gi (endsL lo hi) k = v at *
                cases hin : inB v 0 3000 with
                | false =>
                  go_wp2_with (first | (go_at_call 48; refine (Sits_calls _ _ _ _).mono ?_; rintro e w' ⟨rfl, rfl⟩; rw [hin]))
                  go_roundg (4 - (k + 1))
                  case measure => have := Hgk.out; omega
                  case rel => exact ⟨k + 1, by omega, rfl, by go_num, HBe.out⟩
                | true =>
                  obtain ⟨c2, f2, l2⟩ := K2.out.below HBe.out
                  go_upto_region 14 with (first | (go_at_call 48; refine (Sits_calls _ _ _ _).mono ?_; rintro e w' ⟨rfl, rfl⟩; rw [hin]))
                  have hb : Below wr.heap.size wr (wr.alloc (.cells B.cells 28)) := (Below.refl _ _).alloc (Nat.le_refl _) _
                  have k13 := BoxAt.new wr B.cells 28
                  unfold ForgeV.cells at hb k13
                  generalize World.alloc wr _ = wa at *
                  have HBa := Lib.hid (below_then HBe.out HBe.out.size hb)
                  have hn13 := HBe.out.size
                  replace p0 := cell_below hb p0
                  replace b11 : n11 < wa.heap.size := Nat.lt_of_lt_of_le b11 hb.size
                  generalize wr.heap.size = n13 at *
                  have K13 := Lib.hid k13
                  have h13 := k13.lt
                  have Hvv := Lib.hid (inB_iff.1 hin)
                  clear hb c2 f2 l2 k13 hin
                  obtain ⟨c2, f2, l2⟩ := K2.out.below HBa.out
                  have Hlk := Lib.hid (HB0.out.below (below_then H2.out H2.out.size HBa.out)).looks
                  go_upto_region 14 with (fail)
                  refine region_plain (S := fun w' => Below wa.heap.size wa w') 13 (by kernel_rfl) ?_ (fun hHeld => ?_)
                  · exact (Below.refl _ _).drew
                  generalize hWd : World.drew wa = Wd at *
                  first | (refine anyT_take 1 (some 98) (v := ?_) rfl rfl (by kernel_rfl) (by kernel_rfl) (by kernel_rfl) (by kernel_rfl) (fun _ _ _ h => h) (Or.inl ⟨by rfl, ?_⟩) hHeld ?_; rotate_left; focus (intro wq hSw; obtain ⟨hcq, hfq⟩ := bcell hSw; go_simp; (try with_reducible rfl); done))
                  (try simp only [Act.put, List.setIfInBounds_toArray, List.set_cons_zero, List.set_cons_succ])
                  first | (refine anyT_take 2 (some 99) (v := ?_) rfl rfl (by kernel_rfl) (by kernel_rfl) (by kernel_rfl) (by kernel_rfl) (fun _ _ _ h => h) (Or.inl ⟨by rfl, ?_⟩) hHeld ?_; rotate_left; focus (intro wq hSw; obtain ⟨hcq, hfq⟩ := bcell hSw; go_simp; (try with_reducible rfl); done))
                  (try simp only [Act.put, List.setIfInBounds_toArray, List.set_cons_zero, List.set_cons_succ])
                  first | (refine anyT_take 4 (some 101) (v := ?_) rfl rfl (by kernel_rfl) (by kernel_rfl) (by kernel_rfl) (by kernel_rfl) (fun _ _ _ h => h) (Or.inl ⟨by rfl, ?_⟩) hHeld ?_; rotate_left; focus (intro wq hSw; obtain ⟨hcq, hfq⟩ := bcell hSw; go_simp; (try with_reducible rfl); done))
                  (try simp only [Act.put, List.setIfInBounds_toArray, List.set_cons_zero, List.set_cons_succ])
                  first | (refine anyT_take 5 (some 102) (v := ?_) rfl rfl (by kernel_rfl) (by kernel_rfl) (by kernel_rfl) (by kernel_rfl) (fun _ _ _ h => h) (Or.inl ⟨by rfl, ?_⟩) hHeld ?_; rotate_left; focus (intro wq hSw; obtain ⟨hcq, hfq⟩ := bcell hSw; go_simp; (try with_reducible rfl); done))
                  (try simp only [Act.put, List.setIfInBounds_toArray, List.set_cons_zero, List.set_cons_succ])
                  first | (refine anyT_take 6 (some 103) (v := ?_) rfl rfl (by kernel_rfl) (by kernel_rfl) (by kernel_rfl) (by kernel_rfl) (fun _ _ _ h => h) (Or.inl ⟨by rfl, ?_⟩) hHeld ?_; rotate_left; focus (intro wq hSw; obtain ⟨hcq, hfq⟩ := bcell hSw; go_simp; (try with_reducible rfl); done))
                  (try simp only [Act.put, List.setIfInBounds_toArray, List.set_cons_zero, List.set_cons_succ])
                  first | (refine anyT_take 7 (some 104) (v := ?_) rfl rfl (by kernel_rfl) (by kernel_rfl) (by kernel_rfl) (by kernel_rfl) (fun _ _ _ h => h) (Or.inl ⟨by rfl, ?_⟩) hHeld ?_; rotate_left; focus (intro wq hSw; obtain ⟨hcq, hfq⟩ := bcell hSw; go_simp; (try with_reducible rfl); done))
                  (try simp only [Act.put, List.setIfInBounds_toArray, List.set_cons_zero, List.set_cons_succ])
                  first | (refine anyT_take 8 (some 105) (v := ?_) rfl rfl (by kernel_rfl) (by kernel_rfl) (by kernel_rfl) (by kernel_rfl) (fun _ _ _ h => h) (Or.inl ⟨by rfl, ?_⟩) hHeld ?_; rotate_left; focus (intro wq hSw; obtain ⟨hcq, hfq⟩ := bcell hSw; go_simp; (try with_reducible rfl); done))
                  (try simp only [Act.put, List.setIfInBounds_toArray, List.set_cons_zero, List.set_cons_succ])
                  refine anyT_one 0 (by kernel_rfl) rfl (fun K hK => ?_)
                  have hWds := hHeld.size
                  go_simp
                  refine hK.out _ _ ?_ (fun hHeld => ?_)
                  · exact hHeld.alloc hHeld.size _
                  clear hK K
                  (try simp only [Act.put, List.setIfInBounds_toArray, List.set_cons_zero, List.set_cons_succ])
                  refine anyT_one 3 (by kernel_rfl) rfl (fun K hK => ?_)
                  rw [if_pos (by rfl)]; refine wp_appLooks _ _ _ rfl wa.heap.size _ [] rfl (OwnLooks.lit Wd wa.heap.size hWds) B.kA B.kCap B.looks rfl (Hlk.out.below hHeld) (by simp; omega) hHeld.size ?_; rintro v5 w5' ho5 hb5; have hb5' := hHeld.trans hb5; have ho5 : OwnLooks w5' wa.heap.size v5 B.looks := ho5
                  go_simp
                  refine hK.out _ _ ?_ (fun hHeld => ?_)
                  · exact hb5'
                  clear hK K
                  (try simp only [Act.put, List.setIfInBounds_toArray, List.set_cons_zero, List.set_cons_succ])
                  refine anyT_one 9 (by kernel_rfl) rfl (fun K hK => ?_)
                  go_simp
                  refine (look_calls _ _ _ _).mono ?_; rintro e w6' ⟨rfl, hb6⟩; replace ho5 := ho5.below hb6
                  refine hK.out _ _ ?_ (fun hHeld => ?_)
                  · exact below_then hHeld hHeld.size hb6
                  clear hK K
                  (try simp only [Act.put, List.setIfInBounds_toArray, List.set_cons_zero, List.set_cons_succ])
                  refine anyT_one 10 (by kernel_rfl) rfl (fun K hK => ?_)
                  go_simp
                  refine hK.out _ _ ?_ (fun hHeld => ?_)
                  · exact hHeld.alloc hHeld.size _
                  clear hK K
                  (try simp only [Act.put, List.setIfInBounds_toArray, List.set_cons_zero, List.set_cons_succ])
                  refine anyT_one 11 (by kernel_rfl) rfl (fun K hK => ?_)
                  rw [if_pos (by rfl)]; refine wp_appLooks _ _ _ rfl wa.heap.size _ B.looks rfl (ho5.alloc _) (some ⟨_, 0, none⟩) 1 [⟨bl, v, 0⟩] rfl (LooksAt.of1 (BoxAt.new _ _ _)) (by simp; omega) hHeld.size ?_; rintro v8 w8 ho8 hb8; have hb8' := hHeld.trans hb8; obtain ⟨A8, c8, rfl, hl8, hg8⟩ := ho8.reads (by simp; omega)
                  go_simp
                  refine hK.out _ _ ?_ (fun hHeld => ?_)
                  · exact hb8'
                  clear hK K
                  (try simp only [Act.put, List.setIfInBounds_toArray, List.set_cons_zero, List.set_cons_succ])
                  first | (refine anyT_take 12 (some 109) (v := ?_) rfl rfl (by kernel_rfl) (by kernel_rfl) (by kernel_rfl) (by kernel_rfl) (fun _ _ _ h => h) (Or.inl ⟨by rfl, ?_⟩) hHeld ?_; rotate_left; focus (intro wq hSw; obtain ⟨hcq, hfq⟩ := bcell hSw; go_simp; (try with_reducible rfl); done))
                  (try simp only [Act.put, List.setIfInBounds_toArray, List.set_cons_zero, List.set_cons_succ])
                  refine anyT_last (by kernel_rfl) rfl (fun K hK => ?_)
                  obtain ⟨c13, f13, l13⟩ := K13.out.below hHeld
                  go_simp
                  refine hK.out _ _ ?_
                  clear hK K
                  (try simp only [Act.put, List.setIfInBounds_toArray, List.set_cons_zero, List.set_cons_succ])
                  refine anyT_done (by kernel_rfl) ?_ _
                  have hk3 : Keep (fun q => q = n13) w8 (w8.setCell ⟨n13, 13, none⟩ (.slice A8 (B.looks.length + 1) c8)) := Keep.setCell (M := fun q => q = n13) (Keep.refl _ _) (p := ⟨n13, 13, none⟩) (.inl rfl) _
                  have HBf := Lib.hid ((below_then HBa.out HBa.out.size hHeld).trans (hk3.below (n := w6.heap.size) (fun q _ e => by omega) (below_then HBa.out HBa.out.size hHeld).size))
                  have k13 : BoxAt (w8.setCell ⟨n13, 13, none⟩ (.slice A8 (B.looks.length + 1) c8)) n13 (withLook B A8 c8 ⟨bl, v, 0⟩).cells := by rw [withLook_cells]; exact (K13.out.below hHeld).put 13 (.slice A8 (B.looks.length + 1) c8) (by simp)
                  rw [withLook_cells] at k13
                  have hlk9 := hl8.keep hk3 (fun b o e => by have := hg8 b o e; omega)
                  have hX : (withLook B A8 c8 ⟨bl, v, 0⟩).Reads (w8.setCell ⟨n13, 13, none⟩ (.slice A8 (B.looks.length + 1) c8)) := by
                    have h := HB0.out.below (below_then H2.out H2.out.size HBf.out)
                    exact ⟨h.lots, h.thins, hlk9⟩
                  have HX := Lib.hid hX
                  have gX := (withLook_good Hg.out A8 c8 ⟨bl, v, 0⟩).2 ⟨hl7, lookOk_mk (by have := Hbl.out; omega) Hvv.out (by omega)⟩
                  have hcX := Hck.out A8 c8
                  clear hX hlk9 hk3 hHeld c2 f2 l2 c13 f13 l13 ho8 hb8 hb8' hl8 hg8 hb5 hb5' ho5 hb6 p0 b11
                  generalize World.setCell w8 _ _ = w9 at *
                  obtain ⟨c13, f13, l13⟩ := k13
                  go_wp2_with fail
                  refine (eq0_2 (v' := (withLook B A8 c8 ⟨bl, v, 0⟩).val) (by unfold ForgeV.val; rw [withLook_cells]) (Thick_calls (withLook B A8 c8 ⟨bl, v, 0⟩) 0 _ HX.out)).mono ?_
                  rintro e w10 ⟨rfl, hb⟩
                  replace HBf := Lib.hid (below_then HBf.out HBf.out.size hb)
                  clear hb c13 f13 l13 HX
                  by_cases hk2 : k < 2
                  · have hk2i : (k : Int) < 2 := by omega
                    obtain ⟨ea, eb, hth⟩ := thick_can gX (by rw [hcX]; simp [hk2]) (n := 0) (by omega)
                    rw [hth]
                    clear hth gX hcX
                    go_wp2
                    go_roundg (4 - (k + 1))
                    case measure => have := Hgk.out; omega
                    case rel => exact ⟨k + 1, by omega, rfl, by go_num, HBf.out.alloc HBf.out.size _⟩
                  · have hk2i : ¬ (k : Int) < 2 := by omega
                    have hth := thick_not gX (by rw [hcX]; simp [hk2]) (n := 0) (by omega)
                    rw [hth]
                    clear hth gX hcX
                    go_wp2
                    go_roundg (4 - (k + 1))
                    case measure => have := Hgk.out; omega
                    case rel => exact ⟨k + 1, by omega, rfl, by go_num, HBf.out.alloc HBf.out.size _⟩
              · obtain rfl : k = 4 := by omega
                go_wp2
                refine Met.intro ?_
                go_step
                (repeat apply Exists.intro)
                exact ⟨HBe.out, rfl⟩
        case rest =>
          as_aux_lemma =>
            have Hc := Lib.hid hcut
            have htl := Hg.out.thin who hw3
            have h3l : who < B.thins.length := by have := Hg.out.thinsLen; omega
            obtain ⟨sb, so, hsA⟩ := HB0.out.thins.some_ (by omega)
            have hts := HB0.out.thins
            rw [hsA] at hts
            have hp := hts.at_ h3l
            have Hts := Lib.hid hts
            have Hth := Lib.hid (gs_pair B.thins who)
            generalize (gs B.thins who).1 = tl at *
            generalize (gs B.thins who).2 = th at *
            have Hp := Lib.hid hp
            have hw1 : IntKind.i64.wrap (tl - 1) = tl - 1 := wrap_in (by omega) (by omega)
            have hw2 : IntKind.i64.wrap (th + 1) = th + 1 := wrap_in (by omega) (by omega)
            have hpc := And.intro (cell_below (below_then H2.out H2.out.size Hc.out) hp.1) (cell_below (below_then H2.out H2.out.size Hc.out) hp.2)
            obtain ⟨p0, p1⟩ := hpc
            have pbl := World.block_lt_of_cell? _ _ p0
            simp only at pbl
            replace K2 := Lib.hid (K2.out.below Hc.out)
            rw [hsA] at K2
            have HsA := Lib.hid hsA
            obtain ⟨c2, f2, l2⟩ := K2.out
            generalize wc = w7 at *
            clear hts hp hcut hsA
            go_upto_block 2 with (fail)
            go_wp2
            go_loopg [16] (th - tl + 3).toNat (fun gq i wr => ∃ j : Nat, j ≤ (th - tl + 3).toNat ∧ gq = (th - tl + 3).toNat - j ∧ i = .int .i64 (tl - 1 + j) ∧ Below w7.heap.size w7 wr)
            case atStart => exact ⟨0, Nat.zero_le _, rfl, by go_num, Below.refl _ _⟩
            case round =>
              obtain ⟨j, hj, hgk, rfl, hBe⟩ := hrel
              have HBe := Lib.hid hBe
              have Hgk := Lib.hid hgk
              clear hgk
              replace p0 := cell_below hBe p0
              replace p1 := cell_below hBe p1
              have pbl := World.block_lt_of_cell? _ _ p0
              simp only at pbl
              obtain ⟨c2, f2, l2⟩ := K2.out.below hBe
              clear hBe
              by_cases hlt : j < (th - tl + 3).toNat
              · obtain ⟨m, hm⟩ : ∃ m, m = tl - 1 + (j : Int) := ⟨_, rfl⟩
                rw [← hm]
                have hmm : tl - 1 ≤ m ∧ m ≤ th + 1 := by omega
                have Hm := Lib.hid hm
                clear hm
                have hle : m ≤ th + 1 := hmm.2
                go_upto_region 22 with (fail)
                have hb : Below wr.heap.size wr (wr.alloc (.cells B.cells 28)) := (Below.refl _ _).alloc (Nat.le_refl _) _
                have k17 := BoxAt.new wr B.cells 28
                unfold ForgeV.cells at hb k17
                rw [HsA.out] at hb k17
                generalize World.alloc wr _ = wa at *
                have HBa := Lib.hid (below_then HBe.out HBe.out.size hb)
                have hn17 := HBe.out.size
                replace p0 := cell_below hb p0
                replace p1 := cell_below hb p1
                have pbl := World.block_lt_of_cell? _ _ p0
                simp only at pbl
                generalize wr.heap.size = n17 at *
                have K17 := Lib.hid k17
                have h17 := k17.lt
                clear hb c2 f2 l2 k17
                obtain ⟨c2, f2, l2⟩ := K2.out.below HBa.out
                have hb1 : Below wa.heap.size wa (wa.alloc (.cells #[] 24)) := (Below.refl _ _).alloc (Nat.le_refl _) _
                have hsp := (Hts.out.below (below_then H2.out H2.out.size Hc.out)).below (HBa.out.trans (hb1.mono HBa.out.size))
                go_wp2_with (at_builtin; refine wpList_copySpans _ rfl _ _ rfl wa rfl rfl (some ⟨sb, so, none⟩) B.sCap B.thins rfl hsp (by omega) (by have := Hg.out.thinsLen; omega) ?_)
                rintro g c8 cur w8 hg hcur hsp8 hgb hb8
                have kg := BoxAt.of_heap hg
                have k17 := K17.out.below hb8
                have HB8 := Lib.hid (below_then HBa.out HBa.out.size hb8)
                replace p0 := cell_below hb8 p0
                replace p1 := cell_below hb8 p1
                have h9 := hb8.size
                clear hb1 hsp hg c2 f2 l2 pbl
                obtain ⟨c17, f17, l17⟩ := k17
                go_upto_region 23 with (fail)
                have hk3 : Keep (fun q => q = n17) w8 (w8.setCell ⟨n17, 7, none⟩ (.slice (some ⟨g, 0, none⟩) B.thins.length c8)) := Keep.setCell (M := fun q => q = n17) (Keep.refl _ _) (p := ⟨n17, 7, none⟩) (.inl rfl) _
                have HBf := Lib.hid (HB8.out.trans (hk3.below (n := w7.heap.size) (fun q _ e => by omega) HB8.out.size))
                have k17 : BoxAt (w8.setCell ⟨n17, 7, none⟩ (.slice (some ⟨g, 0, none⟩) B.thins.length c8)) n17 (withThin B (some ⟨g, 0, none⟩) c8 who m).cells := by rw [withThin_cells]; exact (K17.out.below hb8).put 7 (.slice (some ⟨g, 0, none⟩) B.thins.length c8) (by simp)
                rw [withThin_cells] at k17
                replace kg := kg.keep hk3 (by omega)
                replace hsp8 := hsp8.keep hk3 (fun b o e => by cases e; omega)
                replace p0 := hk3.cell p0 (by simp only; omega)
                replace p1 := hk3.cell p1 (by simp only; omega)
                clear hk3 c17 f17 l17 hb8
                generalize World.setCell w8 _ _ = w9 at *
                have h9b := kg.lt
                have h9c := k17.lt
                have K17 := Lib.hid k17
                obtain ⟨c17, f17, l17⟩ := k17
                refine region_plain (S := fun w' => Below w9.heap.size w9 w') 7 (by kernel_rfl) ?_ (fun hHeld => ?_)
                · exact (Below.refl _ _).drew
                first | (refine anyT_take 0 (some 144) (v := ?_) rfl rfl (by kernel_rfl) (by kernel_rfl) (by kernel_rfl) (by kernel_rfl) (fun _ _ _ h => h) (Or.inl ⟨by rfl, ?_⟩) hHeld ?_; rotate_left; focus (intro wq hSw; obtain ⟨hcq, hfq⟩ := bcell hSw; go_simp; (try with_reducible rfl); done))
                (try simp only [Act.put, List.setIfInBounds_toArray, List.set_cons_zero, List.set_cons_succ])
                first | (refine anyT_take 1 (some 145) (v := ?_) rfl rfl (by kernel_rfl) (by kernel_rfl) (by kernel_rfl) (by kernel_rfl) (fun _ _ _ h => h) (Or.inl ⟨by rfl, ?_⟩) hHeld ?_; rotate_left; focus (intro wq hSw; obtain ⟨hcq, hfq⟩ := bcell hSw; go_simp; (try with_reducible rfl); done))
                (try simp only [Act.put, List.setIfInBounds_toArray, List.set_cons_zero, List.set_cons_succ])
                first | (refine anyT_take 2 (some 146) (v := ?_) rfl rfl (by kernel_rfl) (by kernel_rfl) (by kernel_rfl) (by kernel_rfl) (fun _ _ _ h => h) (Or.inl ⟨by rfl, ?_⟩) hHeld ?_; rotate_left; focus (intro wq hSw; obtain ⟨hcq, hfq⟩ := bcell hSw; go_simp; (try with_reducible rfl); done))
                (try simp only [Act.put, List.setIfInBounds_toArray, List.set_cons_zero, List.set_cons_succ])
                first | (refine anyT_take 3 (some 147) (v := ?_) rfl rfl (by kernel_rfl) (by kernel_rfl) (by kernel_rfl) (by kernel_rfl) (fun _ _ _ h => h) (Or.inl ⟨by rfl, ?_⟩) hHeld ?_; rotate_left; focus (intro wq hSw; obtain ⟨hcq, hfq⟩ := bcell hSw; go_simp; (try with_reducible rfl); done))
                (try simp only [Act.put, List.setIfInBounds_toArray, List.set_cons_zero, List.set_cons_succ])
                first | (refine anyT_take 4 (some 148) (v := ?_) rfl rfl (by kernel_rfl) (by kernel_rfl) (by kernel_rfl) (by kernel_rfl) (fun _ _ _ h => h) (Or.inl ⟨by rfl, ?_⟩) hHeld ?_; rotate_left; focus (intro wq hSw; obtain ⟨hcq, hfq⟩ := bcell hSw; go_simp; (try with_reducible rfl); done))
                (try simp only [Act.put, List.setIfInBounds_toArray, List.set_cons_zero, List.set_cons_succ])
                refine anyT_one 5 (by kernel_rfl) rfl (fun K hK => ?_)
                go_simp
                refine (Band_calls _ _ _).mono ?_; rintro e w10 ⟨rfl, hb1⟩
                refine hK.out _ _ ?_ (fun hHeld => ?_)
                · exact below_then hHeld hHeld.size hb1
                clear hK K
                (try simp only [Act.put, List.setIfInBounds_toArray, List.set_cons_zero, List.set_cons_succ])
                first | (refine anyT_take 6 (some 150) (v := ?_) rfl rfl (by kernel_rfl) (by kernel_rfl) (by kernel_rfl) (by kernel_rfl) (fun _ _ _ h => h) (Or.inl ⟨by rfl, ?_⟩) hHeld ?_; rotate_left; focus (intro wq hSw; obtain ⟨hcq, hfq⟩ := bcell hSw; go_simp; (try with_reducible rfl); done))
                (try simp only [Act.put, List.setIfInBounds_toArray, List.set_cons_zero, List.set_cons_succ])
                refine anyT_last (by kernel_rfl) rfl (fun K hK => ?_)
                have kgs := kg.below hHeld; have fg := kgs.frozen; have lg := kgs.lt; clear kgs; have hsg := (hsp8.below hHeld).at_ h3l; rw [Nat.zero_add] at hsg; obtain ⟨q0, q1⟩ := hsg
                go_simp
                refine hK.out _ _ ?_
                clear hK K
                (try simp only [Act.put, List.setIfInBounds_toArray, List.set_cons_zero, List.set_cons_succ])
                refine anyT_done (by kernel_rfl) ?_ _
                have hk3 : Keep (fun q => q = g) w10 ((w10.setCell ⟨g, who * 2, none⟩ (.int .i64 m)).setCell ⟨g, who * 2 + 1, none⟩ (.int .i64 m)) := Keep.setCell (M := fun q => q = g) (Keep.setCell (M := fun q => q = g) (Keep.refl _ _) (p := ⟨g, who * 2, none⟩) (.inl rfl) _) (p := ⟨g, who * 2 + 1, none⟩) (.inl rfl) _
                have HBx := below_then HBf.out HBf.out.size hHeld
                have hkb := hk3.below (n := w7.heap.size) (fun q _ e => by omega) HBx.size
                have hspX := spans_put (kg.below hHeld) (hsp8.below hHeld) h3l m m
                replace p0 := hk3.cell (cell_below hHeld p0) (by simp only; omega)
                replace p1 := hk3.cell (cell_below hHeld p1) (by simp only; omega)
                have k17 := (K17.out.below hHeld).keep hk3 (by omega)
                replace HBf := Lib.hid (HBx.trans hkb)
                have hX : (withThin B (some ⟨g, 0, none⟩) c8 who m).Reads ((w10.setCell ⟨g, who * 2, none⟩ (.int .i64 m)).setCell ⟨g, who * 2 + 1, none⟩ (.int .i64 m)) := by
                  have h := HB0.out.below (below_then H2.out H2.out.size (below_then Hc.out Hc.out.size HBf.out))
                  exact ⟨h.lots, hspX, h.looks⟩
                have HX := Lib.hid hX
                clear hX hspX hk3 hkb HBx hHeld c17 f17 l17 c2 f2 l2 hsp8 kg q0 q1 fg lg
                generalize World.setCell (World.setCell w10 _ _) _ _ = w11 at *
                have pbl := World.block_lt_of_cell? _ _ p0
                simp only at pbl
                obtain ⟨c17, f17, l17⟩ := k17
                go_wp2_with fail
                refine (eq0_2 (v' := (withThin B (some ⟨g, 0, none⟩) c8 who m).val) (by unfold ForgeV.val; rw [withThin_cells]) (Thick_calls (withThin B (some ⟨g, 0, none⟩) c8 who m) 0 _ HX.out)).mono ?_
                rintro e w12 ⟨rfl, hb⟩
                clear c17 f17 l17 HX
                have HBz := below_then HBf.out HBf.out.size hb
                replace p0 := cell_below hb p0
                replace p1 := cell_below hb p1
                have Hl := Hl9.out.below (below_then Hc.out Hc.out.size HBz)
                have k2x := K2.out.below HBz
                clear hb HBf
                have pbl := World.block_lt_of_cell? _ _ p0
                simp only at pbl
                obtain ⟨c2, f2, l2⟩ := k2x
                have hgs : gs B.thins who = (tl, th) := Hth.out
                have hall : ∃ ea eb ec, thickR (withThin B (some ⟨g, 0, none⟩) c8 who m) 0 = .tuple #[.agg #[.int .i64 ea, .int .i64 eb], .int .i64 ec] ∧ ((tl ≤ m ∧ m ≤ th ∧ ((ec = 0 ∧ m ∈ S) ∨ (ec = 22 ∧ m ∉ S))) ∨ (¬ (tl ≤ m ∧ m ≤ th) ∧ m ∉ S)) := by
                  by_cases hin : tl ≤ m ∧ m ≤ th
                  · have gX := (withThin_good Hg.out (some ⟨g, 0, none⟩) c8 hw3 m).2 (by omega)
                    have hcX := can_withThin Hg.out (A := some ⟨g, 0, none⟩) (c := c8) hw3 (v := m) (by rw [hgs]; exact hin)
                    rw [HS.out] at hcX
                    by_cases hmem : m ∈ S
                    · obtain ⟨ea, eb, hth⟩ := thick_can gX (hcX.2 hmem) (n := 0) (by omega)
                      exact ⟨ea, eb, 0, hth, .inl ⟨hin.1, hin.2, .inl ⟨rfl, hmem⟩⟩⟩
                    · exact ⟨0, 0, 22, thick_not gX (by rw [← Bool.not_eq_true]; exact fun h => hmem (hcX.1 h)) (n := 0) (by omega), .inl ⟨hin.1, hin.2, .inr ⟨rfl, hmem⟩⟩⟩
                  · have hno : m ∉ S := fun h => hin (by have := strength_in Hg.out hw3 (HS.out ▸ h); rw [hgs] at this; exact this)
                    obtain ⟨ea, eb, ec, hth⟩ := thick_shape (withThin B (some ⟨g, 0, none⟩) c8 who m) 0
                    exact ⟨ea, eb, ec, hth, .inr ⟨hin, hno⟩⟩
                obtain ⟨ea, eb, ec, hth, hec⟩ := hall
                rw [hth]
                clear hth hgs
                go_upto_region 25 with (fail)
                have hb : Below w12.heap.size w12 (w12.alloc (.cells #[.int .i64 ea, .int .i64 eb] 24)) := (Below.refl _ _).alloc (Nat.le_refl _) _
                generalize World.alloc w12 _ = w13 at *
                obtain ⟨c2, f2, l2⟩ := BoxAt.below ⟨c2, f2, l2⟩ hb
                replace p0 := cell_below hb p0
                replace p1 := cell_below hb p1
                have pbl := World.block_lt_of_cell? _ _ p0
                simp only at pbl
                replace HBz := below_then HBz HBz.size hb
                replace Hl := Hl.below hb
                clear hb
                have hw3 : IntKind.i64.wrap (m + 1) = m + 1 := wrap_in (by omega) (by omega)
                rcases hec with ⟨h1, h2, ⟨rfl, hmem⟩ | ⟨rfl, hmem⟩⟩ | ⟨hin, hmem⟩
                · have ri : inB m tl th = true := inB_iff.2 ⟨h1, h2⟩
                  clear h1 h2
                  go_wp2_with (first
                    | (go_at_call 54; refine (Bears_calls _ _ _ _).mono ?_; rintro e w' ⟨rfl, hb⟩; rw [ri]; obtain ⟨c2, f2, l2⟩ := BoxAt.below ⟨c2, f2, l2⟩ hb; replace p0 := cell_below hb p0; replace p1 := cell_below hb p1; have pbl := World.block_lt_of_cell? _ _ p0; simp only at pbl; have HBz := below_then HBz HBz.size hb; replace Hl := Hl.below hb; clear hb)
                    | (go_at_call 56; refine (Where_calls _ _ _ _ _ Hl).mono ?_; rintro e w' ⟨⟨r, rfl, hr⟩, rfl⟩; replace hr : 0 ≤ r := (by rcases hr with h | h; exact h.1; exact absurd hmem h.2)))
                  go_roundg ((th - tl + 3).toNat - (j + 1))
                  case measure => have := Hgk.out; omega
                  case rel => exact ⟨j + 1, by omega, rfl, by rw [show m + 1 = tl - 1 + ((j + 1 : Nat) : Int) by have := Hm.out; omega], HBz⟩
                · have ri : inB m tl th = true := inB_iff.2 ⟨h1, h2⟩
                  clear h1 h2
                  go_wp2_with (first
                    | (go_at_call 54; refine (Bears_calls _ _ _ _).mono ?_; rintro e w' ⟨rfl, hb⟩; rw [ri]; obtain ⟨c2, f2, l2⟩ := BoxAt.below ⟨c2, f2, l2⟩ hb; replace p0 := cell_below hb p0; replace p1 := cell_below hb p1; have pbl := World.block_lt_of_cell? _ _ p0; simp only at pbl; have HBz := below_then HBz HBz.size hb; replace Hl := Hl.below hb; clear hb)
                    | (go_at_call 56; refine (Where_calls _ _ _ _ _ Hl).mono ?_; rintro e w' ⟨⟨r, rfl, hr⟩, rfl⟩; replace hr : r < 0 := (by rcases hr with h | h; exact absurd h.2 hmem; exact h.1)))
                  go_roundg ((th - tl + 3).toNat - (j + 1))
                  case measure => have := Hgk.out; omega
                  case rel => exact ⟨j + 1, by omega, rfl, by rw [show m + 1 = tl - 1 + ((j + 1 : Nat) : Int) by have := Hm.out; omega], HBz⟩
                · have ri : inB m tl th = false := by rw [← Bool.not_eq_true]; exact fun h => hin (inB_iff.1 h)
                  clear hin
                  go_wp2_with (first
                    | (go_at_call 54; refine (Bears_calls _ _ _ _).mono ?_; rintro e w' ⟨rfl, hb⟩; rw [ri]; obtain ⟨c2, f2, l2⟩ := BoxAt.below ⟨c2, f2, l2⟩ hb; replace p0 := cell_below hb p0; replace p1 := cell_below hb p1; have pbl := World.block_lt_of_cell? _ _ p0; simp only at pbl; have HBz := below_then HBz HBz.size hb; replace Hl := Hl.below hb; clear hb)
                    | (go_at_call 56; refine (Where_calls _ _ _ _ _ Hl).mono ?_; rintro e w' ⟨⟨r, rfl, hr⟩, rfl⟩; replace hr : r < 0 := (by rcases hr with h | h; exact absurd h.2 hmem; exact h.1)))
                  go_roundg ((th - tl + 3).toNat - (j + 1))
                  case measure => have := Hgk.out; omega
                  case rel => exact ⟨j + 1, by omega, rfl, by rw [show m + 1 = tl - 1 + ((j + 1 : Nat) : Int) by have := Hm.out; omega], HBz⟩
              · obtain rfl : j = (th - tl + 3).toNat := by omega
                have hgt : ¬ (tl - 1 + ((th - tl + 3).toNat : Int) ≤ th + 1) := by omega
                have HM8 := Lib.hid (HM0.out.below (below_then H2.out H2.out.size (below_then Hc.out Hc.out.size HBe.out)))
                go_wp2_with fail
                refine (works_calls _ HM8.out).mono ?_
                rintro e w9 ⟨rfl, hb⟩
                go_wp2
                go_ret
                exact ⟨rfl, below_then H2.out H2.out.size (below_then Hc.out Hc.out.size (below_then HBe.out HBe.out.size hb))⟩
end
end Go.Proofs.YtgfbfbfajnfbjaaDoor
