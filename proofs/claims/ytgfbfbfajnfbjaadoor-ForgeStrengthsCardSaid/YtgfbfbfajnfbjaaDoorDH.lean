/- PROVED: ForgeStrengths (the walk): the law returns true, whatever the book and the numbers. -/
import Derived.Test.YtgfbfbfajnfbjaaDoorDE
import Derived.Test.YtgfbfbfajnfbjaaDoorW
import Derived.Test.YtgfbfbfajnfbjaaDoorY
import Derived.Test.YtgfbfbfajnfbjaaDoorBV
import Derived.Test.YtgfbfbfajnfbjaaDoorBF
namespace Go.Proofs.YtgfbfbfajnfbjaaDoor
section
open Go.RowKit Go.Shelf
set_option linter.unusedSimpArgs false
set_option linter.unusedVariables false
/-! The reference's Thick and Strength. -/
theorem between_span {B : ForgeV} {n : Int} {p : Int × Int} (h : spanOf B n (truthsS B 0) = some p) : betweenS B n = p := by unfold betweenS; rw [h]; rfl
def anyTo (s : Nat) (n : Int) (l : List (List Int)) (k : Nat) : Bool := (List.range k).any fun i => decide (gi (gm l i) s = n)
theorem anyTo_succ (s : Nat) (n : Int) (l : List (List Int)) (k : Nat) : anyTo s n l (k + 1) = (anyTo s n l k || decide (gi (gm l k) s = n)) := by
  unfold anyTo
  rw [List.range_succ, List.any_append]; simp
theorem any_met (s : Nat) (n : Int) (l : List (List Int)) : decide (n ∈ metOf s l) = anyTo s n l l.length := by
  rw [Bool.eq_iff_iff, decide_eq_true_eq, mem_met]
  unfold anyTo
  rw [List.any_eq_true]
  constructor
  · rintro ⟨t, ht, e⟩
    obtain ⟨i, hi, rfl⟩ := List.getElem_of_mem ht
    refine ⟨i, List.mem_range.2 hi, decide_eq_true ?_⟩
    unfold gm
    rw [List.getD_eq_getElem?_getD, List.getElem?_eq_getElem hi]; exact e
  · rintro ⟨i, hi, e⟩
    have hi' := List.mem_range.1 hi
    refine ⟨gm l i, ?_, of_decide_eq_true e⟩
    unfold gm
    rw [List.getD_eq_getElem?_getD, List.getElem?_eq_getElem hi']
    exact List.getElem_mem hi'
theorem strengthTo_one {B : ForgeV} (g : B.Good) {s : Nat} (hs : s < 3) : strengthTo B s 1 = [] := by
  rcases h : strengthTo B s 1 with _ | ⟨x, l⟩
  · rfl
  · exfalso
    have hm : x ∈ strengthTo B s 1 := by rw [h]; exact List.mem_cons_self ..
    obtain ⟨hx, t, ht, e⟩ := mem_strengthTo.1 hm
    have h1 := (mem0.1 ht).2.1 s hs
    have h2 := g.thin s hs
    omega
/-- what Strength tells -/
def strL (B : ForgeV) (s : Int) : List Int := if askedE B (inB s 0 2) = 0 then strengthS B s else []
theorem strengthR_all {B : ForgeV} {s : Int} {e : Ending} {w' : World} (h : StrengthR B s e w') : ∃ A c, e = .returned (.tuple #[.slice A (strL B s).length c, .int .i64 (askedE B (inB s 0 2))]) ∧ IntsAt w' A (strL B s) := by
  unfold strL
  rcases h with ⟨h1, h2⟩ | ⟨h1, A, h2, h3⟩
  · rw [if_neg h1]; exact ⟨none, 0, h2, ⟨by simp, .inl rfl⟩⟩
  · rw [if_pos h1, h1]; exact ⟨A, _, h2, h3⟩
end
section
open Go.RowKit Go.Shelf
attribute [local go_sem] Oper.semAt_some
set_option linter.unusedSimpArgs false
set_option linter.unusedVariables false
set_option maxRecDepth 100000 in
set_option maxHeartbeats 4000000 in
theorem refThick_calls (B : ForgeV) (n : Int) (w : World) (hB : B.Reads w) :
    Calls Tryd.prog 34 #[B.val, .int .i64 n] w fun e w' => e = .returned (thickR B n) ∧ Below w.heap.size w w' := by
  have HB := Lib.hid hB
  have hR : Hid (thickR B n = if askedE B (inB n 0 300) = 0 then .tuple #[.agg #[.int .i64 (betweenS B n).1, .int .i64 (betweenS B n).2], .int .i64 0] else .tuple #[.agg #[.int .i64 0, .int .i64 0], .int .i64 (askedE B (inB n 0 300))]) := Lib.hid rfl
  have k2 := (BoxAt.new w B.cells 28).alloc (.cells #[.int .i64 0, .int .i64 0] 24)
  have k4 := BoxAt.new (w.alloc (.cells B.cells 28)) #[.int .i64 0, .int .i64 0] 24
  have Hb : Below w.heap.size w ((w.alloc (.cells B.cells 28)).alloc (.cells #[.int .i64 0, .int .i64 0] 24)) := ((Below.refl _ _).alloc (Nat.le_refl _) _).alloc (by simp) _
  rw [World.size_alloc] at k4
  clear hB
  have hcells : B.val = .agg B.cells := rfl
  rw [hcells]
  unfold ForgeV.cells at k2 k4 Hb ⊢
  go_enter Tryd.func34, Tryd.ntmps34
  go_upto_region 1 with (fail)
  generalize (w.alloc _).alloc _ = W1 at *
  have hn4 : w.heap.size < w.heap.size + 1 := Nat.lt_succ_self _
  generalize w.heap.size + 1 = n4 at *
  have K2 := Lib.hid k2
  have K4 := Lib.hid k4
  have HW1 := Lib.hid Hb
  obtain ⟨c2, f2, l2⟩ := k2
  clear Hb k4
  refine region_plain (S := fun w' => Below W1.heap.size W1 w') 9 (by kernel_rfl) ?_ (fun hHeld => ?_)
  · exact (Below.refl _ _).drew
  first | (refine anyT_take 0 (some 9) (v := ?_) rfl rfl (by kernel_rfl) (by kernel_rfl) (by kernel_rfl) (by kernel_rfl) (fun _ _ _ h => h) (Or.inl ⟨by rfl, ?_⟩) hHeld ?_; rotate_left; focus (intro wq hSw; obtain ⟨hcq, hfq⟩ := bcell hSw; go_simp; (try with_reducible rfl); done))
  (try simp only [Act.put, List.setIfInBounds_toArray, List.set_cons_zero, List.set_cons_succ])
  first | (refine anyT_take 1 (some 10) (v := ?_) rfl rfl (by kernel_rfl) (by kernel_rfl) (by kernel_rfl) (by kernel_rfl) (fun _ _ _ h => h) (Or.inl ⟨by rfl, ?_⟩) hHeld ?_; rotate_left; focus (intro wq hSw; obtain ⟨hcq, hfq⟩ := bcell hSw; go_simp; (try with_reducible rfl); done))
  (try simp only [Act.put, List.setIfInBounds_toArray, List.set_cons_zero, List.set_cons_succ])
  refine anyT_one 2 (by kernel_rfl) rfl (fun K hK => ?_)
  go_simp
  refine (Sits_calls _ _ _ _).mono ?_; rintro e x1 ⟨rfl, rfl⟩
  refine hK.out _ _ ?_ (fun hHeld => ?_)
  · exact hHeld
  clear hK K
  (try simp only [Act.put, List.setIfInBounds_toArray, List.set_cons_zero, List.set_cons_succ])
  refine anyT_one 3 (by kernel_rfl) rfl (fun K hK => ?_)
  go_simp
  refine (eq0_2 (v' := B.val) (by unfold ForgeV.val ForgeV.cells; rfl) (refAsked_calls B _ _ (HB.out.below (below_then HW1.out HW1.out.size hHeld)))).mono ?_; rintro e w2 ⟨⟨TA, tn, tc, rfl, hta⟩, hb2⟩
  refine hK.out _ _ ?_ (fun hHeld => ?_)
  · exact below_then hHeld hHeld.size hb2
  clear hK K
  (try simp only [Act.put, List.setIfInBounds_toArray, List.set_cons_zero, List.set_cons_succ])
  first | (refine anyT_take 4 (some 8) (v := ?_) rfl rfl (by kernel_rfl) (by kernel_rfl) (by kernel_rfl) (by kernel_rfl) (fun _ _ _ h => h) (Or.inl ⟨by rfl, ?_⟩) hHeld ?_; rotate_left; focus (intro wq hSw; obtain ⟨hcq, hfq⟩ := bcell hSw; go_simp; (try with_reducible rfl); done))
  (try simp only [Act.put, List.setIfInBounds_toArray, List.set_cons_zero, List.set_cons_succ])
  first | (refine anyT_take 5 (some 13) (v := ?_) rfl rfl (by kernel_rfl) (by kernel_rfl) (by kernel_rfl) (by kernel_rfl) (fun _ _ _ h => h) (Or.inl ⟨by rfl, ?_⟩) hHeld ?_; rotate_left; focus (intro wq hSw; obtain ⟨hcq, hfq⟩ := bcell hSw; go_simp; (try with_reducible rfl); done))
  (try simp only [Act.put, List.setIfInBounds_toArray, List.set_cons_zero, List.set_cons_succ])
  first | (refine anyT_take 6 (some 14) (v := ?_) rfl rfl (by kernel_rfl) (by kernel_rfl) (by kernel_rfl) (by kernel_rfl) (fun _ _ _ h => h) (Or.inl ⟨by rfl, ?_⟩) hHeld ?_; rotate_left; focus (intro wq hSw; obtain ⟨hcq, hfq⟩ := bcell hSw; go_simp; (try with_reducible rfl); done))
  (try simp only [Act.put, List.setIfInBounds_toArray, List.set_cons_zero, List.set_cons_succ])
  first | (refine anyT_take 7 (some 6) (v := ?_) rfl rfl (by kernel_rfl) (by kernel_rfl) (by kernel_rfl) (by kernel_rfl) (fun _ _ _ h => h) (Or.inl ⟨by rfl, ?_⟩) hHeld ?_; rotate_left; focus (intro wq hSw; obtain ⟨hcq, hfq⟩ := bcell hSw; go_simp; (try with_reducible rfl); done))
  (try simp only [Act.put, List.setIfInBounds_toArray, List.set_cons_zero, List.set_cons_succ])
  first | (refine anyT_take 8 (some 7) (v := ?_) rfl rfl (by kernel_rfl) (by kernel_rfl) (by kernel_rfl) (by kernel_rfl) (fun _ _ _ h => h) (Or.inl ⟨by rfl, ?_⟩) hHeld ?_; rotate_left; focus (intro wq hSw; obtain ⟨hcq, hfq⟩ := bcell hSw; go_simp; (try with_reducible rfl); done))
  (try simp only [Act.put, List.setIfInBounds_toArray, List.set_cons_zero, List.set_cons_succ])
  refine anyT_done (by kernel_rfl) ?_ _
  have HW2 := Lib.hid (below_then HW1.out HW1.out.size hHeld)
  have K22 := Lib.hid (K2.out.below hHeld)
  have K42 := Lib.hid (K4.out.below hHeld)
  have Hta := Lib.hid hta
  have hz0 := fun h => askedE_zero (B := B) (r := inB n 0 300) h
  have Hz0 := Lib.hid hz0
  clear hHeld hb2 hta hz0 c2 f2 l2
  generalize askedE B (inB n 0 300) = f at *
  obtain ⟨c4, f4, l4⟩ := K42.out
  by_cases hf : f = 0
  · subst hf
    obtain ⟨rfl, hta⟩ := Hta.out rfl
    obtain ⟨hg, hin, hcan⟩ := Hz0.out rfl
    have g := (goodF_iff B).1 hg
    have Hg := Lib.hid g
    have Hn := Lib.hid (inB_iff.1 hin)
    have hpos : 0 < (truthsS B 0).length := by rw [can_len] at hcan; exact of_decide_eq_true hcan
    have Hpos := Lib.hid hpos
    have Htr := Lib.hid hta
    have Hl8 := Lib.hid (truthsS_len g 0)
    have Hmem := Lib.hid (fun t (ht : t ∈ truthsS B 0) => (truthsS_mem g ht).2)
    have Hbs := Lib.hid (fun p (h : spanOf B n (truthsS B 0) = some p) => between_span h)
    clear hg hin hcan g hpos hta c4 f4 l4
    generalize truthsS B 0 = l at *
    obtain ⟨c2, f2, l2⟩ := K22.out
    go_wp2_with fail
    refine (eq0_3 (v' := B.val) (by unfold ForgeV.val ForgeV.cells; rfl) (refBetween_calls B Hg.out n Hn.out l Hpos.out Hl8.out Hmem.out TA tc _ Htr.out)).mono ?_
    rintro e w3 ⟨⟨p, hp, rfl⟩, hb3⟩
    obtain ⟨lo, hi⟩ := p
    have Hr := Lib.hid (show thickR B n = .tuple #[.agg #[.int .i64 lo, .int .i64 hi], .int .i64 0] by rw [hR.out]; simp [Hbs.out _ hp])
    have hs := box_store2 (K42.out.below hb3) rfl (.int .i64 lo) (.int .i64 hi)
    have Hs4 := Lib.hid hs.1
    have Hs5 := Lib.hid (hs.2 w.heap.size (Nat.le_of_lt hn4))
    have HW3 := Lib.hid (below_then HW2.out HW2.out.size hb3)
    obtain ⟨c4, f4, l4⟩ := K42.out.below hb3
    clear hs hp hb3 c2 f2 l2
    go_wp2
    obtain ⟨c4, f4, l4⟩ := Hs4.out
    exact bodyPost_ret (v := .tuple #[.agg #[.int .i64 lo, .int .i64 hi], .int .i64 0]) (by simp [results, Tryd.results34, go_sem, c4]) rfl ⟨by rw [Hr.out], HW3.out.trans Hs5.out⟩
  · have hfb : (f != 0) = true := by simpa using hf
    have Hr := Lib.hid (show thickR B n = .tuple #[.agg #[.int .i64 0, .int .i64 0], .int .i64 f] by rw [hR.out, if_neg hf])
    have hs := box_store2 K42.out rfl (.int .i64 0) (.int .i64 0)
    have Hs4 := Lib.hid hs.1
    have Hs5 := Lib.hid (hs.2 w.heap.size (Nat.le_of_lt hn4))
    clear hs
    go_wp2
    obtain ⟨c4, f4, l4⟩ := Hs4.out
    exact bodyPost_ret (v := .tuple #[.agg #[.int .i64 0, .int .i64 0], .int .i64 f]) (by simp [results, Tryd.results34, go_sem, c4]) rfl ⟨by rw [Hr.out], HW2.out.trans Hs5.out⟩
set_option maxRecDepth 100000 in
set_option maxHeartbeats 8000000 in
theorem refStrength_calls (B : ForgeV) (s : Int) (w : World) (hB : B.Reads w) :
    Calls Tryd.prog 32 #[B.val, .int .i64 s] w fun e w' => (∃ A c, e = .returned (.tuple #[.slice A (strL B s).length c, .int .i64 (askedE B (inB s 0 2))]) ∧ IntsAt w' A (strL B s)) ∧ Below w.heap.size w w' := by
  have hcase : s = 0 ∨ s = 1 ∨ s = 2 ∨ inB s 0 2 = false := by
    by_cases h : 0 ≤ s ∧ s ≤ 2
    · omega
    · refine .inr (.inr (.inr ?_))
      rw [Bool.eq_false_iff]; intro h2; exact h (inB_iff.1 h2)
  rcases hcase with rfl | rfl | rfl | hs4
  · as_aux_lemma =>
      have HB := Lib.hid hB
      have hS : Hid (strL B 0 = if askedE B (inB 0 0 2) = 0 then strengthS B 0 else []) := Lib.hid rfl
      have k2 := BoxAt.new w B.cells 28
      have Hb : Below w.heap.size w (w.alloc (.cells B.cells 28)) := (Below.refl _ _).alloc (Nat.le_refl _) _
      clear hB
      have hcells : B.val = .agg B.cells := rfl
      rw [hcells]
      unfold ForgeV.cells at k2 Hb ⊢
      go_enter Tryd.func32, Tryd.ntmps32
      go_upto_region 1 with (fail)
      generalize w.alloc _ = W1 at *
      have K2 := Lib.hid k2
      have HW1 := Lib.hid Hb
      obtain ⟨c2, f2, l2⟩ := k2
      clear Hb
      refine region_plain (S := fun w' => Below W1.heap.size W1 w') 9 (by kernel_rfl) ?_ (fun hHeld => ?_)
      · exact (Below.refl _ _).drew
      first | (refine anyT_take 0 (some 13) (v := ?_) rfl rfl (by kernel_rfl) (by kernel_rfl) (by kernel_rfl) (by kernel_rfl) (fun _ _ _ h => h) (Or.inl ⟨by rfl, ?_⟩) hHeld ?_; rotate_left; focus (intro wq hSw; obtain ⟨hcq, hfq⟩ := bcell hSw; go_simp; (try with_reducible rfl); done))
      (try simp only [Act.put, List.setIfInBounds_toArray, List.set_cons_zero, List.set_cons_succ])
      first | (refine anyT_take 1 (some 14) (v := ?_) rfl rfl (by kernel_rfl) (by kernel_rfl) (by kernel_rfl) (by kernel_rfl) (fun _ _ _ h => h) (Or.inl ⟨by rfl, ?_⟩) hHeld ?_; rotate_left; focus (intro wq hSw; obtain ⟨hcq, hfq⟩ := bcell hSw; go_simp; (try with_reducible rfl); done))
      (try simp only [Act.put, List.setIfInBounds_toArray, List.set_cons_zero, List.set_cons_succ])
      refine anyT_one 2 (by kernel_rfl) rfl (fun K hK => ?_)
      go_simp
      refine (Sits_calls _ _ _ _).mono ?_; rintro e x1 ⟨rfl, rfl⟩
      refine hK.out _ _ ?_ (fun hHeld => ?_)
      · exact hHeld
      clear hK K
      (try simp only [Act.put, List.setIfInBounds_toArray, List.set_cons_zero, List.set_cons_succ])
      refine anyT_one 3 (by kernel_rfl) rfl (fun K hK => ?_)
      go_simp
      refine (eq0_2 (v' := B.val) (by unfold ForgeV.val ForgeV.cells; rfl) (refAsked_calls B _ _ (HB.out.below (below_then HW1.out HW1.out.size hHeld)))).mono ?_; rintro e w2 ⟨⟨TA, tn, tc, rfl, hta⟩, hb2⟩
      refine hK.out _ _ ?_ (fun hHeld => ?_)
      · exact below_then hHeld hHeld.size hb2
      clear hK K
      (try simp only [Act.put, List.setIfInBounds_toArray, List.set_cons_zero, List.set_cons_succ])
      first | (refine anyT_take 4 (some 12) (v := ?_) rfl rfl (by kernel_rfl) (by kernel_rfl) (by kernel_rfl) (by kernel_rfl) (fun _ _ _ h => h) (Or.inl ⟨by rfl, ?_⟩) hHeld ?_; rotate_left; focus (intro wq hSw; obtain ⟨hcq, hfq⟩ := bcell hSw; go_simp; (try with_reducible rfl); done))
      (try simp only [Act.put, List.setIfInBounds_toArray, List.set_cons_zero, List.set_cons_succ])
      first | (refine anyT_take 5 (some 17) (v := ?_) rfl rfl (by kernel_rfl) (by kernel_rfl) (by kernel_rfl) (by kernel_rfl) (fun _ _ _ h => h) (Or.inl ⟨by rfl, ?_⟩) hHeld ?_; rotate_left; focus (intro wq hSw; obtain ⟨hcq, hfq⟩ := bcell hSw; go_simp; (try with_reducible rfl); done))
      (try simp only [Act.put, List.setIfInBounds_toArray, List.set_cons_zero, List.set_cons_succ])
      first | (refine anyT_take 6 (some 18) (v := ?_) rfl rfl (by kernel_rfl) (by kernel_rfl) (by kernel_rfl) (by kernel_rfl) (fun _ _ _ h => h) (Or.inl ⟨by rfl, ?_⟩) hHeld ?_; rotate_left; focus (intro wq hSw; obtain ⟨hcq, hfq⟩ := bcell hSw; go_simp; (try with_reducible rfl); done))
      (try simp only [Act.put, List.setIfInBounds_toArray, List.set_cons_zero, List.set_cons_succ])
      first | (refine anyT_take 7 (some 6) (v := ?_) rfl rfl (by kernel_rfl) (by kernel_rfl) (by kernel_rfl) (by kernel_rfl) (fun _ _ _ h => h) (Or.inl ⟨by rfl, ?_⟩) hHeld ?_; rotate_left; focus (intro wq hSw; obtain ⟨hcq, hfq⟩ := bcell hSw; go_simp; (try with_reducible rfl); done))
      (try simp only [Act.put, List.setIfInBounds_toArray, List.set_cons_zero, List.set_cons_succ])
      first | (refine anyT_take 8 (some 7) (v := ?_) rfl rfl (by kernel_rfl) (by kernel_rfl) (by kernel_rfl) (by kernel_rfl) (fun _ _ _ h => h) (Or.inl ⟨by rfl, ?_⟩) hHeld ?_; rotate_left; focus (intro wq hSw; obtain ⟨hcq, hfq⟩ := bcell hSw; go_simp; (try with_reducible rfl); done))
      (try simp only [Act.put, List.setIfInBounds_toArray, List.set_cons_zero, List.set_cons_succ])
      refine anyT_done (by kernel_rfl) ?_ _
      have HW2 := Lib.hid (below_then HW1.out HW1.out.size hHeld)
      have Hta := Lib.hid hta
      have hz0 := fun h => askedE_zero (B := B) (r := inB 0 0 2) h
      have Hz0 := Lib.hid hz0
      clear hHeld hb2 hta hz0 c2 f2 l2
      generalize hfe : askedE B (inB 0 0 2) = f at *
      have Hfe := Lib.hid hfe
      clear hfe
      by_cases hf : f = 0
      · have hSL : Hid (strL B 0 = strengthS B 0) := by unfold Hid; rw [hS.out, if_pos hf]
        subst hf
        obtain ⟨rfl, hta⟩ := Hta.out rfl
        obtain ⟨hg, hin, hcan⟩ := Hz0.out rfl
        have g := (goodF_iff B).1 hg
        have Hg := Lib.hid g
        have hpos : 0 < (truthsS B 0).length := by rw [can_len] at hcan; exact of_decide_eq_true hcan
        have hl8 := truthsS_len g 0
        obtain ⟨tb, rfl, hth⟩ := hta.resolve_left (by intro e; rw [e] at hpos; simp at hpos)
        have Hst : Hid (strengthS B 0 = strengthTo B 0 21) := Lib.hid rfl
        have H1 := Lib.hid (strengthTo_one g (s := 0) (by decide))
        have Hsu := Lib.hid (fun k => strengthTo_succ B 0 k)
        have Hme := Lib.hid (fun k : Nat => any_met 0 (k : Int) (truthsS B 0))
        have Hle := Lib.hid (fun k => strengthTo_le B 0 k)
        have Has := Lib.hid (fun n k => anyTo_succ 0 n (truthsS B 0) k)
        have Ht := Lib.hid hth
        clear hg hin hcan g hta hth hS Hta Hz0 HB K2
        generalize truthsS B 0 = l at *
        as_aux_lemma =>
            go_upto_block 0 with (fail)
            go_wp2
            go_loopg [9, 8] 20 (fun gq i v wr => ∃ k : Nat, 1 ≤ k ∧ k ≤ 21 ∧ gq = 21 - k ∧ i = .int .i64 k ∧ OwnInts wr w2.heap.size v (strengthTo B 0 k) ∧ Below w2.heap.size w2 wr)
            case atStart => exact ⟨1, Nat.le_refl _, by omega, rfl, rfl, by rw [H1.out]; exact OwnInts.nil _ _, Below.refl _ _⟩
            case round =>
              obtain ⟨k, hk1, hk, hgk, rfl, hown, hbe⟩ := hrel
              have Hgk := Lib.hid hgk
              have Hown := Lib.hid hown
              have Hbe := Lib.hid hbe
              clear hgk hown hbe
              by_cases hlt : k ≤ 20
              · have hki : (k : Int) ≤ 20 := by omega
                have hsu := Hsu.out k
                rw [Hme.out k] at hsu
                have Hs1 := Lib.hid hsu
                have Hlk := Lib.hid (Hle.out k)
                have Hak := Lib.hid (Has.out (k : Int))
                have Hsk : Hid (((k + 1 : Nat) : Int) = (k : Int) + 1) := Lib.hid (by omega)
                clear hsu
                generalize strengthTo B 0 k = L at *
                go_upto_block 2 with (fail)
                go_wp2
                generalize wr = w6 at *
                go_loopg [11, 10] l.length (fun gq i b wr => ∃ j : Nat, j ≤ l.length ∧ gq = l.length - j ∧ i = .int .i64 j ∧ b = .bool (anyTo 0 (k : Int) l j) ∧ wr = w6)
                case atStart => exact ⟨0, Nat.zero_le _, rfl, rfl, rfl, rfl⟩
                case round =>
                  obtain ⟨j, hj, hgj, rfl, rfl, rfl⟩ := hrel
                  have Hgj := Lib.hid hgj
                  clear hgj
                  by_cases hltj : j < l.length
                  · have hji : (j : Int) < l.length := by omega
                    obtain ⟨p0, p1, p2⟩ := ((Ht.out.below Hbe.out)).tri hltj
                    have pbl := World.block_lt_of_cell? _ _ p0
                    simp only at pbl
                    have hsj := Hak.out j
                    generalize gi (gm l j) 0 = x at *
                    have Hsj := Lib.hid hsj
                    clear hsj
                    cases hb : anyTo 0 (k : Int) l j with
                    | true =>
                      have Hbb := Lib.hid hb
                      clear hb
                      go_wp2
                      go_roundg (l.length - (j + 1))
                      case measure => have := Hgj.out; omega
                      case rel => exact ⟨j + 1, by omega, rfl, by go_num, by rw [Hsj.out, Hbb.out]; rfl, rfl⟩
                    | false =>
                      have Hbb := Lib.hid hb
                      clear hb
                      by_cases hx : x = (k : Int)
                      · have hxb : (x == (k : Int)) = true := by simp [hx]
                        have Hx := Lib.hid hx
                        clear hx
                        go_wp2
                        go_roundg (l.length - (j + 1))
                        case measure => have := Hgj.out; omega
                        case rel => exact ⟨j + 1, by omega, rfl, by go_num, by rw [Hsj.out, Hbb.out, decide_eq_true Hx.out]; rfl, rfl⟩
                      · have hxb : (x == (k : Int)) = false := by rw [beq_eq_false_iff_ne]; exact hx
                        have Hx := Lib.hid hx
                        clear hx
                        go_wp2
                        go_roundg (l.length - (j + 1))
                        case measure => have := Hgj.out; omega
                        case rel => exact ⟨j + 1, by omega, rfl, by go_num, by rw [Hsj.out, Hbb.out, decide_eq_false Hx.out]; rfl, rfl⟩
                  · obtain rfl : j = l.length := by omega
                    have hji : ¬ (l.length : Int) < l.length := by omega
                    cases hb : anyTo 0 (k : Int) l l.length with
                    | true =>
                      have hs2 := Hs1.out
                      rw [hb, cond_true] at hs2
                      have Hs2 := Lib.hid hs2
                      clear hb hs2
                      go_wp2_with (at_builtin; refine wpList_app1 _ rfl _ _ rfl w2.heap.size _ _ rfl (Hown.out.alloc _) _ _ _ rfl (cell_new1 _ _ _) (by have := Hlk.out; omega) (by have := Hbe.out.size; simp; omega) ?_)
                      intro v' w5 ho hb5 hsz _
                      have Hho := Lib.hid ho
                      have Hb5 := Lib.hid ((Hbe.out.alloc Hbe.out.size _).trans hb5)
                      clear ho hb5 hsz
                      go_wp2
                      go_roundg (21 - (k + 1))
                      case measure => have := Hgk.out; omega
                      case rel => exact ⟨k + 1, by omega, by omega, rfl, by go_num, by rw [Hs2.out]; exact Hho.out, Hb5.out⟩
                    | false =>
                      have hs2 := Hs1.out
                      rw [hb, cond_false, List.append_nil] at hs2
                      have Hs2 := Lib.hid hs2
                      clear hb hs2
                      go_wp2
                      go_roundg (21 - (k + 1))
                      case measure => have := Hgk.out; omega
                      case rel => exact ⟨k + 1, by omega, by omega, rfl, by go_num, by rw [Hs2.out]; exact Hown.out, Hbe.out⟩
              · obtain rfl : k = 21 := by omega
                have hki : ¬ ((21 : Nat) : Int) ≤ 20 := by decide
                obtain ⟨A', c', rfl, hi', hc', hm', h0⟩ := Hown.out.reads
                have Hi' := Lib.hid hi'
                have HF := Lib.hid (below_then HW2.out HW2.out.size Hbe.out)
                clear hi' h0 hc'
                go_wp2
                go_ret2
                exact ⟨by first | exact ⟨A', c', by rw [hSL.out, Hst.out, Hfe.out] <;> rfl, by rw [hSL.out, Hst.out]; exact Hi'.out⟩ | exact ⟨A', ⟨c', by rw [hSL.out, Hst.out, Hfe.out] <;> rfl⟩, by rw [hSL.out, Hst.out]; exact Hi'.out⟩, HF.out⟩

      · have hfb : (f != 0) = true := by simpa using hf
        have hSL : Hid (strL B 0 = []) := by unfold Hid; rw [hS.out, if_neg hf]
        go_wp2
        go_ret2
        exact ⟨by first | exact ⟨none, 0, by rw [hSL.out, Hfe.out] <;> rfl, by rw [hSL.out]; exact ⟨by simp, .inl rfl⟩⟩ | exact ⟨none, ⟨0, by rw [hSL.out, Hfe.out] <;> rfl⟩, by rw [hSL.out]; exact ⟨by simp, .inl rfl⟩⟩, HW2.out⟩

  · as_aux_lemma =>
      have HB := Lib.hid hB
      have hS : Hid (strL B 1 = if askedE B (inB 1 0 2) = 0 then strengthS B 1 else []) := Lib.hid rfl
      have k2 := BoxAt.new w B.cells 28
      have Hb : Below w.heap.size w (w.alloc (.cells B.cells 28)) := (Below.refl _ _).alloc (Nat.le_refl _) _
      clear hB
      have hcells : B.val = .agg B.cells := rfl
      rw [hcells]
      unfold ForgeV.cells at k2 Hb ⊢
      go_enter Tryd.func32, Tryd.ntmps32
      go_upto_region 1 with (fail)
      generalize w.alloc _ = W1 at *
      have K2 := Lib.hid k2
      have HW1 := Lib.hid Hb
      obtain ⟨c2, f2, l2⟩ := k2
      clear Hb
      refine region_plain (S := fun w' => Below W1.heap.size W1 w') 9 (by kernel_rfl) ?_ (fun hHeld => ?_)
      · exact (Below.refl _ _).drew
      first | (refine anyT_take 0 (some 13) (v := ?_) rfl rfl (by kernel_rfl) (by kernel_rfl) (by kernel_rfl) (by kernel_rfl) (fun _ _ _ h => h) (Or.inl ⟨by rfl, ?_⟩) hHeld ?_; rotate_left; focus (intro wq hSw; obtain ⟨hcq, hfq⟩ := bcell hSw; go_simp; (try with_reducible rfl); done))
      (try simp only [Act.put, List.setIfInBounds_toArray, List.set_cons_zero, List.set_cons_succ])
      first | (refine anyT_take 1 (some 14) (v := ?_) rfl rfl (by kernel_rfl) (by kernel_rfl) (by kernel_rfl) (by kernel_rfl) (fun _ _ _ h => h) (Or.inl ⟨by rfl, ?_⟩) hHeld ?_; rotate_left; focus (intro wq hSw; obtain ⟨hcq, hfq⟩ := bcell hSw; go_simp; (try with_reducible rfl); done))
      (try simp only [Act.put, List.setIfInBounds_toArray, List.set_cons_zero, List.set_cons_succ])
      refine anyT_one 2 (by kernel_rfl) rfl (fun K hK => ?_)
      go_simp
      refine (Sits_calls _ _ _ _).mono ?_; rintro e x1 ⟨rfl, rfl⟩
      refine hK.out _ _ ?_ (fun hHeld => ?_)
      · exact hHeld
      clear hK K
      (try simp only [Act.put, List.setIfInBounds_toArray, List.set_cons_zero, List.set_cons_succ])
      refine anyT_one 3 (by kernel_rfl) rfl (fun K hK => ?_)
      go_simp
      refine (eq0_2 (v' := B.val) (by unfold ForgeV.val ForgeV.cells; rfl) (refAsked_calls B _ _ (HB.out.below (below_then HW1.out HW1.out.size hHeld)))).mono ?_; rintro e w2 ⟨⟨TA, tn, tc, rfl, hta⟩, hb2⟩
      refine hK.out _ _ ?_ (fun hHeld => ?_)
      · exact below_then hHeld hHeld.size hb2
      clear hK K
      (try simp only [Act.put, List.setIfInBounds_toArray, List.set_cons_zero, List.set_cons_succ])
      first | (refine anyT_take 4 (some 12) (v := ?_) rfl rfl (by kernel_rfl) (by kernel_rfl) (by kernel_rfl) (by kernel_rfl) (fun _ _ _ h => h) (Or.inl ⟨by rfl, ?_⟩) hHeld ?_; rotate_left; focus (intro wq hSw; obtain ⟨hcq, hfq⟩ := bcell hSw; go_simp; (try with_reducible rfl); done))
      (try simp only [Act.put, List.setIfInBounds_toArray, List.set_cons_zero, List.set_cons_succ])
      first | (refine anyT_take 5 (some 17) (v := ?_) rfl rfl (by kernel_rfl) (by kernel_rfl) (by kernel_rfl) (by kernel_rfl) (fun _ _ _ h => h) (Or.inl ⟨by rfl, ?_⟩) hHeld ?_; rotate_left; focus (intro wq hSw; obtain ⟨hcq, hfq⟩ := bcell hSw; go_simp; (try with_reducible rfl); done))
      (try simp only [Act.put, List.setIfInBounds_toArray, List.set_cons_zero, List.set_cons_succ])
      first | (refine anyT_take 6 (some 18) (v := ?_) rfl rfl (by kernel_rfl) (by kernel_rfl) (by kernel_rfl) (by kernel_rfl) (fun _ _ _ h => h) (Or.inl ⟨by rfl, ?_⟩) hHeld ?_; rotate_left; focus (intro wq hSw; obtain ⟨hcq, hfq⟩ := bcell hSw; go_simp; (try with_reducible rfl); done))
      (try simp only [Act.put, List.setIfInBounds_toArray, List.set_cons_zero, List.set_cons_succ])
      first | (refine anyT_take 7 (some 6) (v := ?_) rfl rfl (by kernel_rfl) (by kernel_rfl) (by kernel_rfl) (by kernel_rfl) (fun _ _ _ h => h) (Or.inl ⟨by rfl, ?_⟩) hHeld ?_; rotate_left; focus (intro wq hSw; obtain ⟨hcq, hfq⟩ := bcell hSw; go_simp; (try with_reducible rfl); done))
      (try simp only [Act.put, List.setIfInBounds_toArray, List.set_cons_zero, List.set_cons_succ])
      first | (refine anyT_take 8 (some 7) (v := ?_) rfl rfl (by kernel_rfl) (by kernel_rfl) (by kernel_rfl) (by kernel_rfl) (fun _ _ _ h => h) (Or.inl ⟨by rfl, ?_⟩) hHeld ?_; rotate_left; focus (intro wq hSw; obtain ⟨hcq, hfq⟩ := bcell hSw; go_simp; (try with_reducible rfl); done))
      (try simp only [Act.put, List.setIfInBounds_toArray, List.set_cons_zero, List.set_cons_succ])
      refine anyT_done (by kernel_rfl) ?_ _
      have HW2 := Lib.hid (below_then HW1.out HW1.out.size hHeld)
      have Hta := Lib.hid hta
      have hz0 := fun h => askedE_zero (B := B) (r := inB 1 0 2) h
      have Hz0 := Lib.hid hz0
      clear hHeld hb2 hta hz0 c2 f2 l2
      generalize hfe : askedE B (inB 1 0 2) = f at *
      have Hfe := Lib.hid hfe
      clear hfe
      by_cases hf : f = 0
      · have hSL : Hid (strL B 1 = strengthS B 1) := by unfold Hid; rw [hS.out, if_pos hf]
        subst hf
        obtain ⟨rfl, hta⟩ := Hta.out rfl
        obtain ⟨hg, hin, hcan⟩ := Hz0.out rfl
        have g := (goodF_iff B).1 hg
        have Hg := Lib.hid g
        have hpos : 0 < (truthsS B 0).length := by rw [can_len] at hcan; exact of_decide_eq_true hcan
        have hl8 := truthsS_len g 0
        obtain ⟨tb, rfl, hth⟩ := hta.resolve_left (by intro e; rw [e] at hpos; simp at hpos)
        have Hst : Hid (strengthS B 1 = strengthTo B 1 21) := Lib.hid rfl
        have H1 := Lib.hid (strengthTo_one g (s := 1) (by decide))
        have Hsu := Lib.hid (fun k => strengthTo_succ B 1 k)
        have Hme := Lib.hid (fun k : Nat => any_met 1 (k : Int) (truthsS B 0))
        have Hle := Lib.hid (fun k => strengthTo_le B 1 k)
        have Has := Lib.hid (fun n k => anyTo_succ 1 n (truthsS B 0) k)
        have Ht := Lib.hid hth
        clear hg hin hcan g hta hth hS Hta Hz0 HB K2
        generalize truthsS B 0 = l at *
        as_aux_lemma =>
            go_upto_block 0 with (fail)
            go_wp2
            go_loopg [9, 8] 20 (fun gq i v wr => ∃ k : Nat, 1 ≤ k ∧ k ≤ 21 ∧ gq = 21 - k ∧ i = .int .i64 k ∧ OwnInts wr w2.heap.size v (strengthTo B 1 k) ∧ Below w2.heap.size w2 wr)
            case atStart => exact ⟨1, Nat.le_refl _, by omega, rfl, rfl, by rw [H1.out]; exact OwnInts.nil _ _, Below.refl _ _⟩
            case round =>
              obtain ⟨k, hk1, hk, hgk, rfl, hown, hbe⟩ := hrel
              have Hgk := Lib.hid hgk
              have Hown := Lib.hid hown
              have Hbe := Lib.hid hbe
              clear hgk hown hbe
              by_cases hlt : k ≤ 20
              · have hki : (k : Int) ≤ 20 := by omega
                have hsu := Hsu.out k
                rw [Hme.out k] at hsu
                have Hs1 := Lib.hid hsu
                have Hlk := Lib.hid (Hle.out k)
                have Hak := Lib.hid (Has.out (k : Int))
                have Hsk : Hid (((k + 1 : Nat) : Int) = (k : Int) + 1) := Lib.hid (by omega)
                clear hsu
                generalize strengthTo B 1 k = L at *
                go_upto_block 2 with (fail)
                go_wp2
                generalize wr = w6 at *
                go_loopg [11, 10] l.length (fun gq i b wr => ∃ j : Nat, j ≤ l.length ∧ gq = l.length - j ∧ i = .int .i64 j ∧ b = .bool (anyTo 1 (k : Int) l j) ∧ wr = w6)
                case atStart => exact ⟨0, Nat.zero_le _, rfl, rfl, rfl, rfl⟩
                case round =>
                  obtain ⟨j, hj, hgj, rfl, rfl, rfl⟩ := hrel
                  have Hgj := Lib.hid hgj
                  clear hgj
                  by_cases hltj : j < l.length
                  · have hji : (j : Int) < l.length := by omega
                    obtain ⟨p0, p1, p2⟩ := ((Ht.out.below Hbe.out)).tri hltj
                    have pbl := World.block_lt_of_cell? _ _ p0
                    simp only at pbl
                    have hsj := Hak.out j
                    generalize gi (gm l j) 1 = x at *
                    have Hsj := Lib.hid hsj
                    clear hsj
                    cases hb : anyTo 1 (k : Int) l j with
                    | true =>
                      have Hbb := Lib.hid hb
                      clear hb
                      go_wp2
                      go_roundg (l.length - (j + 1))
                      case measure => have := Hgj.out; omega
                      case rel => exact ⟨j + 1, by omega, rfl, by go_num, by rw [Hsj.out, Hbb.out]; rfl, rfl⟩
                    | false =>
                      have Hbb := Lib.hid hb
                      clear hb
                      by_cases hx : x = (k : Int)
                      · have hxb : (x == (k : Int)) = true := by simp [hx]
                        have Hx := Lib.hid hx
                        clear hx
                        go_wp2
                        go_roundg (l.length - (j + 1))
                        case measure => have := Hgj.out; omega
                        case rel => exact ⟨j + 1, by omega, rfl, by go_num, by rw [Hsj.out, Hbb.out, decide_eq_true Hx.out]; rfl, rfl⟩
                      · have hxb : (x == (k : Int)) = false := by rw [beq_eq_false_iff_ne]; exact hx
                        have Hx := Lib.hid hx
                        clear hx
                        go_wp2
                        go_roundg (l.length - (j + 1))
                        case measure => have := Hgj.out; omega
                        case rel => exact ⟨j + 1, by omega, rfl, by go_num, by rw [Hsj.out, Hbb.out, decide_eq_false Hx.out]; rfl, rfl⟩
                  · obtain rfl : j = l.length := by omega
                    have hji : ¬ (l.length : Int) < l.length := by omega
                    cases hb : anyTo 1 (k : Int) l l.length with
                    | true =>
                      have hs2 := Hs1.out
                      rw [hb, cond_true] at hs2
                      have Hs2 := Lib.hid hs2
                      clear hb hs2
                      go_wp2_with (at_builtin; refine wpList_app1 _ rfl _ _ rfl w2.heap.size _ _ rfl (Hown.out.alloc _) _ _ _ rfl (cell_new1 _ _ _) (by have := Hlk.out; omega) (by have := Hbe.out.size; simp; omega) ?_)
                      intro v' w5 ho hb5 hsz _
                      have Hho := Lib.hid ho
                      have Hb5 := Lib.hid ((Hbe.out.alloc Hbe.out.size _).trans hb5)
                      clear ho hb5 hsz
                      go_wp2
                      go_roundg (21 - (k + 1))
                      case measure => have := Hgk.out; omega
                      case rel => exact ⟨k + 1, by omega, by omega, rfl, by go_num, by rw [Hs2.out]; exact Hho.out, Hb5.out⟩
                    | false =>
                      have hs2 := Hs1.out
                      rw [hb, cond_false, List.append_nil] at hs2
                      have Hs2 := Lib.hid hs2
                      clear hb hs2
                      go_wp2
                      go_roundg (21 - (k + 1))
                      case measure => have := Hgk.out; omega
                      case rel => exact ⟨k + 1, by omega, by omega, rfl, by go_num, by rw [Hs2.out]; exact Hown.out, Hbe.out⟩
              · obtain rfl : k = 21 := by omega
                have hki : ¬ ((21 : Nat) : Int) ≤ 20 := by decide
                obtain ⟨A', c', rfl, hi', hc', hm', h0⟩ := Hown.out.reads
                have Hi' := Lib.hid hi'
                have HF := Lib.hid (below_then HW2.out HW2.out.size Hbe.out)
                clear hi' h0 hc'
                go_wp2
                go_ret2
                exact ⟨by first | exact ⟨A', c', by rw [hSL.out, Hst.out, Hfe.out] <;> rfl, by rw [hSL.out, Hst.out]; exact Hi'.out⟩ | exact ⟨A', ⟨c', by rw [hSL.out, Hst.out, Hfe.out] <;> rfl⟩, by rw [hSL.out, Hst.out]; exact Hi'.out⟩, HF.out⟩

      · have hfb : (f != 0) = true := by simpa using hf
        have hSL : Hid (strL B 1 = []) := by unfold Hid; rw [hS.out, if_neg hf]
        go_wp2
        go_ret2
        exact ⟨by first | exact ⟨none, 0, by rw [hSL.out, Hfe.out] <;> rfl, by rw [hSL.out]; exact ⟨by simp, .inl rfl⟩⟩ | exact ⟨none, ⟨0, by rw [hSL.out, Hfe.out] <;> rfl⟩, by rw [hSL.out]; exact ⟨by simp, .inl rfl⟩⟩, HW2.out⟩

  · as_aux_lemma =>
      have HB := Lib.hid hB
      have hS : Hid (strL B 2 = if askedE B (inB 2 0 2) = 0 then strengthS B 2 else []) := Lib.hid rfl
      have k2 := BoxAt.new w B.cells 28
      have Hb : Below w.heap.size w (w.alloc (.cells B.cells 28)) := (Below.refl _ _).alloc (Nat.le_refl _) _
      clear hB
      have hcells : B.val = .agg B.cells := rfl
      rw [hcells]
      unfold ForgeV.cells at k2 Hb ⊢
      go_enter Tryd.func32, Tryd.ntmps32
      go_upto_region 1 with (fail)
      generalize w.alloc _ = W1 at *
      have K2 := Lib.hid k2
      have HW1 := Lib.hid Hb
      obtain ⟨c2, f2, l2⟩ := k2
      clear Hb
      refine region_plain (S := fun w' => Below W1.heap.size W1 w') 9 (by kernel_rfl) ?_ (fun hHeld => ?_)
      · exact (Below.refl _ _).drew
      first | (refine anyT_take 0 (some 13) (v := ?_) rfl rfl (by kernel_rfl) (by kernel_rfl) (by kernel_rfl) (by kernel_rfl) (fun _ _ _ h => h) (Or.inl ⟨by rfl, ?_⟩) hHeld ?_; rotate_left; focus (intro wq hSw; obtain ⟨hcq, hfq⟩ := bcell hSw; go_simp; (try with_reducible rfl); done))
      (try simp only [Act.put, List.setIfInBounds_toArray, List.set_cons_zero, List.set_cons_succ])
      first | (refine anyT_take 1 (some 14) (v := ?_) rfl rfl (by kernel_rfl) (by kernel_rfl) (by kernel_rfl) (by kernel_rfl) (fun _ _ _ h => h) (Or.inl ⟨by rfl, ?_⟩) hHeld ?_; rotate_left; focus (intro wq hSw; obtain ⟨hcq, hfq⟩ := bcell hSw; go_simp; (try with_reducible rfl); done))
      (try simp only [Act.put, List.setIfInBounds_toArray, List.set_cons_zero, List.set_cons_succ])
      refine anyT_one 2 (by kernel_rfl) rfl (fun K hK => ?_)
      go_simp
      refine (Sits_calls _ _ _ _).mono ?_; rintro e x1 ⟨rfl, rfl⟩
      refine hK.out _ _ ?_ (fun hHeld => ?_)
      · exact hHeld
      clear hK K
      (try simp only [Act.put, List.setIfInBounds_toArray, List.set_cons_zero, List.set_cons_succ])
      refine anyT_one 3 (by kernel_rfl) rfl (fun K hK => ?_)
      go_simp
      refine (eq0_2 (v' := B.val) (by unfold ForgeV.val ForgeV.cells; rfl) (refAsked_calls B _ _ (HB.out.below (below_then HW1.out HW1.out.size hHeld)))).mono ?_; rintro e w2 ⟨⟨TA, tn, tc, rfl, hta⟩, hb2⟩
      refine hK.out _ _ ?_ (fun hHeld => ?_)
      · exact below_then hHeld hHeld.size hb2
      clear hK K
      (try simp only [Act.put, List.setIfInBounds_toArray, List.set_cons_zero, List.set_cons_succ])
      first | (refine anyT_take 4 (some 12) (v := ?_) rfl rfl (by kernel_rfl) (by kernel_rfl) (by kernel_rfl) (by kernel_rfl) (fun _ _ _ h => h) (Or.inl ⟨by rfl, ?_⟩) hHeld ?_; rotate_left; focus (intro wq hSw; obtain ⟨hcq, hfq⟩ := bcell hSw; go_simp; (try with_reducible rfl); done))
      (try simp only [Act.put, List.setIfInBounds_toArray, List.set_cons_zero, List.set_cons_succ])
      first | (refine anyT_take 5 (some 17) (v := ?_) rfl rfl (by kernel_rfl) (by kernel_rfl) (by kernel_rfl) (by kernel_rfl) (fun _ _ _ h => h) (Or.inl ⟨by rfl, ?_⟩) hHeld ?_; rotate_left; focus (intro wq hSw; obtain ⟨hcq, hfq⟩ := bcell hSw; go_simp; (try with_reducible rfl); done))
      (try simp only [Act.put, List.setIfInBounds_toArray, List.set_cons_zero, List.set_cons_succ])
      first | (refine anyT_take 6 (some 18) (v := ?_) rfl rfl (by kernel_rfl) (by kernel_rfl) (by kernel_rfl) (by kernel_rfl) (fun _ _ _ h => h) (Or.inl ⟨by rfl, ?_⟩) hHeld ?_; rotate_left; focus (intro wq hSw; obtain ⟨hcq, hfq⟩ := bcell hSw; go_simp; (try with_reducible rfl); done))
      (try simp only [Act.put, List.setIfInBounds_toArray, List.set_cons_zero, List.set_cons_succ])
      first | (refine anyT_take 7 (some 6) (v := ?_) rfl rfl (by kernel_rfl) (by kernel_rfl) (by kernel_rfl) (by kernel_rfl) (fun _ _ _ h => h) (Or.inl ⟨by rfl, ?_⟩) hHeld ?_; rotate_left; focus (intro wq hSw; obtain ⟨hcq, hfq⟩ := bcell hSw; go_simp; (try with_reducible rfl); done))
      (try simp only [Act.put, List.setIfInBounds_toArray, List.set_cons_zero, List.set_cons_succ])
      first | (refine anyT_take 8 (some 7) (v := ?_) rfl rfl (by kernel_rfl) (by kernel_rfl) (by kernel_rfl) (by kernel_rfl) (fun _ _ _ h => h) (Or.inl ⟨by rfl, ?_⟩) hHeld ?_; rotate_left; focus (intro wq hSw; obtain ⟨hcq, hfq⟩ := bcell hSw; go_simp; (try with_reducible rfl); done))
      (try simp only [Act.put, List.setIfInBounds_toArray, List.set_cons_zero, List.set_cons_succ])
      refine anyT_done (by kernel_rfl) ?_ _
      have HW2 := Lib.hid (below_then HW1.out HW1.out.size hHeld)
      have Hta := Lib.hid hta
      have hz0 := fun h => askedE_zero (B := B) (r := inB 2 0 2) h
      have Hz0 := Lib.hid hz0
      clear hHeld hb2 hta hz0 c2 f2 l2
      generalize hfe : askedE B (inB 2 0 2) = f at *
      have Hfe := Lib.hid hfe
      clear hfe
      by_cases hf : f = 0
      · have hSL : Hid (strL B 2 = strengthS B 2) := by unfold Hid; rw [hS.out, if_pos hf]
        subst hf
        obtain ⟨rfl, hta⟩ := Hta.out rfl
        obtain ⟨hg, hin, hcan⟩ := Hz0.out rfl
        have g := (goodF_iff B).1 hg
        have Hg := Lib.hid g
        have hpos : 0 < (truthsS B 0).length := by rw [can_len] at hcan; exact of_decide_eq_true hcan
        have hl8 := truthsS_len g 0
        obtain ⟨tb, rfl, hth⟩ := hta.resolve_left (by intro e; rw [e] at hpos; simp at hpos)
        have Hst : Hid (strengthS B 2 = strengthTo B 2 21) := Lib.hid rfl
        have H1 := Lib.hid (strengthTo_one g (s := 2) (by decide))
        have Hsu := Lib.hid (fun k => strengthTo_succ B 2 k)
        have Hme := Lib.hid (fun k : Nat => any_met 2 (k : Int) (truthsS B 0))
        have Hle := Lib.hid (fun k => strengthTo_le B 2 k)
        have Has := Lib.hid (fun n k => anyTo_succ 2 n (truthsS B 0) k)
        have Ht := Lib.hid hth
        clear hg hin hcan g hta hth hS Hta Hz0 HB K2
        generalize truthsS B 0 = l at *
        as_aux_lemma =>
            go_upto_block 0 with (fail)
            go_wp2
            go_loopg [9, 8] 20 (fun gq i v wr => ∃ k : Nat, 1 ≤ k ∧ k ≤ 21 ∧ gq = 21 - k ∧ i = .int .i64 k ∧ OwnInts wr w2.heap.size v (strengthTo B 2 k) ∧ Below w2.heap.size w2 wr)
            case atStart => exact ⟨1, Nat.le_refl _, by omega, rfl, rfl, by rw [H1.out]; exact OwnInts.nil _ _, Below.refl _ _⟩
            case round =>
              obtain ⟨k, hk1, hk, hgk, rfl, hown, hbe⟩ := hrel
              have Hgk := Lib.hid hgk
              have Hown := Lib.hid hown
              have Hbe := Lib.hid hbe
              clear hgk hown hbe
              by_cases hlt : k ≤ 20
              · have hki : (k : Int) ≤ 20 := by omega
                have hsu := Hsu.out k
                rw [Hme.out k] at hsu
                have Hs1 := Lib.hid hsu
                have Hlk := Lib.hid (Hle.out k)
                have Hak := Lib.hid (Has.out (k : Int))
                have Hsk : Hid (((k + 1 : Nat) : Int) = (k : Int) + 1) := Lib.hid (by omega)
                clear hsu
                generalize strengthTo B 2 k = L at *
                go_upto_block 2 with (fail)
                go_wp2
                generalize wr = w6 at *
                go_loopg [11, 10] l.length (fun gq i b wr => ∃ j : Nat, j ≤ l.length ∧ gq = l.length - j ∧ i = .int .i64 j ∧ b = .bool (anyTo 2 (k : Int) l j) ∧ wr = w6)
                case atStart => exact ⟨0, Nat.zero_le _, rfl, rfl, rfl, rfl⟩
                case round =>
                  obtain ⟨j, hj, hgj, rfl, rfl, rfl⟩ := hrel
                  have Hgj := Lib.hid hgj
                  clear hgj
                  by_cases hltj : j < l.length
                  · have hji : (j : Int) < l.length := by omega
                    obtain ⟨p0, p1, p2⟩ := ((Ht.out.below Hbe.out)).tri hltj
                    have pbl := World.block_lt_of_cell? _ _ p0
                    simp only at pbl
                    have hsj := Hak.out j
                    generalize gi (gm l j) 2 = x at *
                    have Hsj := Lib.hid hsj
                    clear hsj
                    cases hb : anyTo 2 (k : Int) l j with
                    | true =>
                      have Hbb := Lib.hid hb
                      clear hb
                      go_wp2
                      go_roundg (l.length - (j + 1))
                      case measure => have := Hgj.out; omega
                      case rel => exact ⟨j + 1, by omega, rfl, by go_num, by rw [Hsj.out, Hbb.out]; rfl, rfl⟩
                    | false =>
                      have Hbb := Lib.hid hb
                      clear hb
                      by_cases hx : x = (k : Int)
                      · have hxb : (x == (k : Int)) = true := by simp [hx]
                        have Hx := Lib.hid hx
                        clear hx
                        go_wp2
                        go_roundg (l.length - (j + 1))
                        case measure => have := Hgj.out; omega
                        case rel => exact ⟨j + 1, by omega, rfl, by go_num, by rw [Hsj.out, Hbb.out, decide_eq_true Hx.out]; rfl, rfl⟩
                      · have hxb : (x == (k : Int)) = false := by rw [beq_eq_false_iff_ne]; exact hx
                        have Hx := Lib.hid hx
                        clear hx
                        go_wp2
                        go_roundg (l.length - (j + 1))
                        case measure => have := Hgj.out; omega
                        case rel => exact ⟨j + 1, by omega, rfl, by go_num, by rw [Hsj.out, Hbb.out, decide_eq_false Hx.out]; rfl, rfl⟩
                  · obtain rfl : j = l.length := by omega
                    have hji : ¬ (l.length : Int) < l.length := by omega
                    cases hb : anyTo 2 (k : Int) l l.length with
                    | true =>
                      have hs2 := Hs1.out
                      rw [hb, cond_true] at hs2
                      have Hs2 := Lib.hid hs2
                      clear hb hs2
                      go_wp2_with (at_builtin; refine wpList_app1 _ rfl _ _ rfl w2.heap.size _ _ rfl (Hown.out.alloc _) _ _ _ rfl (cell_new1 _ _ _) (by have := Hlk.out; omega) (by have := Hbe.out.size; simp; omega) ?_)
                      intro v' w5 ho hb5 hsz _
                      have Hho := Lib.hid ho
                      have Hb5 := Lib.hid ((Hbe.out.alloc Hbe.out.size _).trans hb5)
                      clear ho hb5 hsz
                      go_wp2
                      go_roundg (21 - (k + 1))
                      case measure => have := Hgk.out; omega
                      case rel => exact ⟨k + 1, by omega, by omega, rfl, by go_num, by rw [Hs2.out]; exact Hho.out, Hb5.out⟩
                    | false =>
                      have hs2 := Hs1.out
                      rw [hb, cond_false, List.append_nil] at hs2
                      have Hs2 := Lib.hid hs2
                      clear hb hs2
                      go_wp2
                      go_roundg (21 - (k + 1))
                      case measure => have := Hgk.out; omega
                      case rel => exact ⟨k + 1, by omega, by omega, rfl, by go_num, by rw [Hs2.out]; exact Hown.out, Hbe.out⟩
              · obtain rfl : k = 21 := by omega
                have hki : ¬ ((21 : Nat) : Int) ≤ 20 := by decide
                obtain ⟨A', c', rfl, hi', hc', hm', h0⟩ := Hown.out.reads
                have Hi' := Lib.hid hi'
                have HF := Lib.hid (below_then HW2.out HW2.out.size Hbe.out)
                clear hi' h0 hc'
                go_wp2
                go_ret2
                exact ⟨by first | exact ⟨A', c', by rw [hSL.out, Hst.out, Hfe.out] <;> rfl, by rw [hSL.out, Hst.out]; exact Hi'.out⟩ | exact ⟨A', ⟨c', by rw [hSL.out, Hst.out, Hfe.out] <;> rfl⟩, by rw [hSL.out, Hst.out]; exact Hi'.out⟩, HF.out⟩

      · have hfb : (f != 0) = true := by simpa using hf
        have hSL : Hid (strL B 2 = []) := by unfold Hid; rw [hS.out, if_neg hf]
        go_wp2
        go_ret2
        exact ⟨by first | exact ⟨none, 0, by rw [hSL.out, Hfe.out] <;> rfl, by rw [hSL.out]; exact ⟨by simp, .inl rfl⟩⟩ | exact ⟨none, ⟨0, by rw [hSL.out, Hfe.out] <;> rfl⟩, by rw [hSL.out]; exact ⟨by simp, .inl rfl⟩⟩, HW2.out⟩

  have Hs4 := Lib.hid hs4
  clear hs4
  have HB := Lib.hid hB
  have hS : Hid (strL B s = if askedE B (inB s 0 2) = 0 then strengthS B s else []) := Lib.hid rfl
  have k2 := BoxAt.new w B.cells 28
  have Hb : Below w.heap.size w (w.alloc (.cells B.cells 28)) := (Below.refl _ _).alloc (Nat.le_refl _) _
  clear hB
  have hcells : B.val = .agg B.cells := rfl
  rw [hcells]
  unfold ForgeV.cells at k2 Hb ⊢
  go_enter Tryd.func32, Tryd.ntmps32
  go_upto_region 1 with (fail)
  generalize w.alloc _ = W1 at *
  have K2 := Lib.hid k2
  have HW1 := Lib.hid Hb
  obtain ⟨c2, f2, l2⟩ := k2
  clear Hb
  refine region_plain (S := fun w' => Below W1.heap.size W1 w') 9 (by kernel_rfl) ?_ (fun hHeld => ?_)
  · exact (Below.refl _ _).drew
  first | (refine anyT_take 0 (some 13) (v := ?_) rfl rfl (by kernel_rfl) (by kernel_rfl) (by kernel_rfl) (by kernel_rfl) (fun _ _ _ h => h) (Or.inl ⟨by rfl, ?_⟩) hHeld ?_; rotate_left; focus (intro wq hSw; obtain ⟨hcq, hfq⟩ := bcell hSw; go_simp; (try with_reducible rfl); done))
  (try simp only [Act.put, List.setIfInBounds_toArray, List.set_cons_zero, List.set_cons_succ])
  first | (refine anyT_take 1 (some 14) (v := ?_) rfl rfl (by kernel_rfl) (by kernel_rfl) (by kernel_rfl) (by kernel_rfl) (fun _ _ _ h => h) (Or.inl ⟨by rfl, ?_⟩) hHeld ?_; rotate_left; focus (intro wq hSw; obtain ⟨hcq, hfq⟩ := bcell hSw; go_simp; (try with_reducible rfl); done))
  (try simp only [Act.put, List.setIfInBounds_toArray, List.set_cons_zero, List.set_cons_succ])
  refine anyT_one 2 (by kernel_rfl) rfl (fun K hK => ?_)
  go_simp
  refine (Sits_calls _ _ _ _).mono ?_; rintro e x1 ⟨rfl, rfl⟩
  refine hK.out _ _ ?_ (fun hHeld => ?_)
  · exact hHeld
  clear hK K
  (try simp only [Act.put, List.setIfInBounds_toArray, List.set_cons_zero, List.set_cons_succ])
  refine anyT_one 3 (by kernel_rfl) rfl (fun K hK => ?_)
  go_simp
  refine (eq0_2 (v' := B.val) (by unfold ForgeV.val ForgeV.cells; rfl) (refAsked_calls B _ _ (HB.out.below (below_then HW1.out HW1.out.size hHeld)))).mono ?_; rintro e w2 ⟨⟨TA, tn, tc, rfl, hta⟩, hb2⟩
  refine hK.out _ _ ?_ (fun hHeld => ?_)
  · exact below_then hHeld hHeld.size hb2
  clear hK K
  (try simp only [Act.put, List.setIfInBounds_toArray, List.set_cons_zero, List.set_cons_succ])
  first | (refine anyT_take 4 (some 12) (v := ?_) rfl rfl (by kernel_rfl) (by kernel_rfl) (by kernel_rfl) (by kernel_rfl) (fun _ _ _ h => h) (Or.inl ⟨by rfl, ?_⟩) hHeld ?_; rotate_left; focus (intro wq hSw; obtain ⟨hcq, hfq⟩ := bcell hSw; go_simp; (try with_reducible rfl); done))
  (try simp only [Act.put, List.setIfInBounds_toArray, List.set_cons_zero, List.set_cons_succ])
  first | (refine anyT_take 5 (some 17) (v := ?_) rfl rfl (by kernel_rfl) (by kernel_rfl) (by kernel_rfl) (by kernel_rfl) (fun _ _ _ h => h) (Or.inl ⟨by rfl, ?_⟩) hHeld ?_; rotate_left; focus (intro wq hSw; obtain ⟨hcq, hfq⟩ := bcell hSw; go_simp; (try with_reducible rfl); done))
  (try simp only [Act.put, List.setIfInBounds_toArray, List.set_cons_zero, List.set_cons_succ])
  first | (refine anyT_take 6 (some 18) (v := ?_) rfl rfl (by kernel_rfl) (by kernel_rfl) (by kernel_rfl) (by kernel_rfl) (fun _ _ _ h => h) (Or.inl ⟨by rfl, ?_⟩) hHeld ?_; rotate_left; focus (intro wq hSw; obtain ⟨hcq, hfq⟩ := bcell hSw; go_simp; (try with_reducible rfl); done))
  (try simp only [Act.put, List.setIfInBounds_toArray, List.set_cons_zero, List.set_cons_succ])
  first | (refine anyT_take 7 (some 6) (v := ?_) rfl rfl (by kernel_rfl) (by kernel_rfl) (by kernel_rfl) (by kernel_rfl) (fun _ _ _ h => h) (Or.inl ⟨by rfl, ?_⟩) hHeld ?_; rotate_left; focus (intro wq hSw; obtain ⟨hcq, hfq⟩ := bcell hSw; go_simp; (try with_reducible rfl); done))
  (try simp only [Act.put, List.setIfInBounds_toArray, List.set_cons_zero, List.set_cons_succ])
  first | (refine anyT_take 8 (some 7) (v := ?_) rfl rfl (by kernel_rfl) (by kernel_rfl) (by kernel_rfl) (by kernel_rfl) (fun _ _ _ h => h) (Or.inl ⟨by rfl, ?_⟩) hHeld ?_; rotate_left; focus (intro wq hSw; obtain ⟨hcq, hfq⟩ := bcell hSw; go_simp; (try with_reducible rfl); done))
  (try simp only [Act.put, List.setIfInBounds_toArray, List.set_cons_zero, List.set_cons_succ])
  refine anyT_done (by kernel_rfl) ?_ _
  have HW2 := Lib.hid (below_then HW1.out HW1.out.size hHeld)
  have Hta := Lib.hid hta
  have hz0 := fun h => askedE_zero (B := B) (r := inB s 0 2) h
  have Hz0 := Lib.hid hz0
  clear hHeld hb2 hta hz0 c2 f2 l2
  generalize hfe : askedE B (inB s 0 2) = f at *
  have Hfe := Lib.hid hfe
  clear hfe
  have hf : f ≠ 0 := fun h => by have := (Hz0.out h).2.1; rw [Hs4.out] at this; cases this
  have hfb : (f != 0) = true := by simpa using hf
  have hSL : Hid (strL B s = []) := by unfold Hid; rw [hS.out, if_neg hf]
  go_wp2
  go_ret2
  exact ⟨by first | exact ⟨none, 0, by rw [hSL.out, Hfe.out] <;> rfl, by rw [hSL.out]; exact ⟨by simp, .inl rfl⟩⟩ | exact ⟨none, ⟨0, by rw [hSL.out, Hfe.out] <;> rfl⟩, by rw [hSL.out]; exact ⟨by simp, .inl rfl⟩⟩, HW2.out⟩
end
end Go.Proofs.YtgfbfbfajnfbjaaDoor

namespace Go.Proofs.YtgfbfbfajnfbjaaDoor
section
open Go.RowKit Go.Shelf
set_option linter.unusedSimpArgs false
set_option linter.unusedVariables false
/-! The fewest looks without which a book can be true, as the reference looks for them: among all sets of looks; with no program in sight. -/
def LtL (a b : List Int) : Prop := a.length < b.length ∨ (a.length = b.length ∧ SoonL a b)
theorem soonL_asymm : ∀ (a b : List Int), SoonL a b → ¬ SoonL b a
  | x :: a, y :: b, h, h' => by
    rcases h with h | ⟨h, h1⟩ <;> rcases h' with h' | ⟨h', h2⟩
    · omega
    · omega
    · omega
    · exact soonL_asymm a b h1 h2
  | [], _, h, _ => h.elim
  | _ :: _, [], h, _ => h.elim
theorem soonL_trans : ∀ (a b c : List Int), SoonL a b → SoonL b c → SoonL a c
  | x :: a, y :: b, z :: c, h, h' => by
    rcases h with h | ⟨h, h1⟩ <;> rcases h' with h' | ⟨h', h2⟩
    · exact .inl (by omega)
    · exact .inl (by omega)
    · exact .inl (by omega)
    · exact .inr ⟨by omega, soonL_trans a b c h1 h2⟩
  | [], _, _, h, _ => h.elim
  | _ :: _, [], _, h, _ => h.elim
  | _ :: _, _ :: _, [], _, h => h.elim
theorem soonL_total : ∀ (a b : List Int), a.length = b.length → a = b ∨ SoonL a b ∨ SoonL b a
  | [], [], _ => .inl rfl
  | x :: a, y :: b, h => by
    rcases Int.lt_trichotomy x y with h1 | h1 | h1
    · exact .inr (.inl (.inl h1))
    · rcases soonL_total a b (by simpa using h) with h2 | h2 | h2
      · exact .inl (by rw [h1, h2])
      · exact .inr (.inl (.inr ⟨h1, h2⟩))
      · exact .inr (.inr (.inr ⟨h1.symm, h2⟩))
    · exact .inr (.inr (.inl h1))
  | [], _ :: _, h => by simp at h
  | _ :: _, [], h => by simp at h
theorem ltL_trans {a b c : List Int} (h : LtL a b) (h' : LtL b c) : LtL a c := by
  rcases h with h | ⟨h, h1⟩ <;> rcases h' with h' | ⟨h', h2⟩
  · exact .inl (by omega)
  · exact .inl (by omega)
  · exact .inl (by omega)
  · exact .inr ⟨by omega, soonL_trans a b c h1 h2⟩
theorem ltL_irrefl (a : List Int) : ¬ LtL a a := by
  rintro (h | ⟨_, h⟩)
  · omega
  · exact soonL_asymm a a h h
theorem mem_mems {s : Int} {n i : Nat} : (i : Int) ∈ memsTo s n ↔ i < n ∧ s / 2 ^ i % 2 = 1 := by
  unfold memsTo
  rw [List.mem_map]
  constructor
  · rintro ⟨j, hj, e⟩
    rw [List.mem_filter, List.mem_range, decide_eq_true_eq] at hj
    obtain rfl : j = i := by have : (j : Int) = i := e; omega
    exact hj
  · rintro ⟨h1, h2⟩
    exact ⟨i, by rw [List.mem_filter, List.mem_range, decide_eq_true_eq]; exact ⟨h1, h2⟩, rfl⟩
/-- a set's looks, and the set -/
theorem can_mems {B : ForgeV} (s : Int) : canS B (bitsN (memsTo s B.looks.length)) = canS B s := by
  have ha := memsTo_asc s B.looks.length
  rw [Bool.eq_iff_iff, canS_iff, canS_iff]
  have : ∀ t, t ∈ truthsS B (bitsN (memsTo s B.looks.length)) ↔ t ∈ truthsS B s := fun t => by
    rw [mem_truthsS, mem_truthsS, seenTo_iff, seenTo_iff]
    simp only [missL, bit_zero ha]
    have hb : ∀ i, i < B.looks.length → ((i : Int) ∉ memsTo s B.looks.length ↔ s / 2 ^ i % 2 = 0) := fun i hi => by
      rw [mem_mems]
      have : s / 2 ^ i % 2 = 0 ∨ s / 2 ^ i % 2 = 1 := by omega
      constructor
      · intro h; rcases this with h' | h'
        · exact h'
        · exact absurd ⟨hi, h'⟩ h
      · intro h h'; omega
    constructor
    · rintro ⟨h1, h2, h3⟩; exact ⟨h1, h2, fun i hi h => h3 i hi ((hb i hi).2 h)⟩
    · rintro ⟨h1, h2, h3⟩; exact ⟨h1, h2, fun i hi h => h3 i hi ((hb i hi).1 h)⟩
  simp only [this]
theorem can_all {B : ForgeV} (g : B.Good) {s : Int} (hs : ∀ i, i < B.looks.length → s / 2 ^ i % 2 = 1) : canS B s = true := by
  rw [canS_iff]
  refine ⟨[(gs B.thins 0).1, (gs B.thins 1).1, (gs B.thins 2).1], mem_truthsS.2 ⟨rfl, fun k hk => ?_, ?_⟩⟩
  · have h := g.thin k hk
    have : k = 0 ∨ k = 1 ∨ k = 2 := by omega
    rcases this with rfl | rfl | rfl <;> simp [gi] <;> omega
  · rw [seenTo_iff]
    intro i hi
    rw [missL]
    intro hn
    have := hs i hi
    omega
theorem all_bits {n i : Nat} (h : i < n) : (((2 ^ n - 1 : Nat) : Int)) / 2 ^ i % 2 = 1 := by
  have h1 := Nat.testBit_two_pow_sub_one n i
  rw [decide_eq_true h, Nat.testBit_eq_decide_div_mod_eq, decide_eq_true_eq] at h1
  have h2 : ((2 ^ n - 1 : Nat) : Int) / 2 ^ i % 2 = (((2 ^ n - 1) / 2 ^ i % 2 : Nat) : Int) := by push_cast; rfl
  rw [h2, h1]; rfl
theorem bitsN_lt {n : Nat} : ∀ (e : List Int) (frm : Nat), frm ≤ n → Asc n frm e → bitsN e + 2 ^ frm ≤ 2 ^ n
  | [], frm, hf, _ => by
    have := Nat.pow_le_pow_right (n := 2) (by decide) hf
    simp only [bitsN]; omega
  | x :: e, frm, hf, ⟨k, hx, h1, h2, h3⟩ => by
    subst hx
    have ih := bitsN_lt e (k + 1) (by omega) h3
    have hm := Nat.pow_le_pow_right (n := 2) (by decide) h1
    rw [bitsN_cons, Int.toNat_natCast]
    rw [Nat.pow_succ] at ih
    omega
theorem asc_lo {n : Nat} : ∀ (e : List Int) (frm : Nat), Asc n frm e → ∀ x, x ∈ e → (frm : Int) ≤ x
  | y :: e, frm, ⟨k, hx, h1, h2, h3⟩, x, hm => by
    rcases List.mem_cons.1 hm with rfl | hm
    · omega
    · have := asc_lo e (k + 1) h3 x hm; omega
theorem asc_ext {n : Nat} : ∀ (a b : List Int) (frm : Nat), Asc n frm a → Asc n frm b → (∀ x, x ∈ a ↔ x ∈ b) → a = b
  | [], [], _, _, _, _ => rfl
  | [], y :: b, _, _, _, h => by have := (h y).2 (List.mem_cons_self ..); cases this
  | x :: a, [], _, _, _, h => by have := (h x).1 (List.mem_cons_self ..); cases this
  | x :: a, y :: b, frm, ⟨k, hx, h1, h2, h3⟩, ⟨j, hy, g1, g2, g3⟩, h => by
    have la := asc_lo a (k + 1) h3
    have lb := asc_lo b (j + 1) g3
    have hxy : x = y := by
      rcases List.mem_cons.1 ((h x).1 (List.mem_cons_self ..)) with e | e
      · exact e
      · rcases List.mem_cons.1 ((h y).2 (List.mem_cons_self ..)) with e' | e'
        · exact e'.symm
        · have := lb x e; have := la y e'; omega
    subst hxy
    obtain rfl : k = j := by omega
    rw [asc_ext a b (k + 1) h3 g3 fun z => ?_]
    constructor
    · intro hz
      rcases List.mem_cons.1 ((h z).1 (List.mem_cons_of_mem _ hz)) with e | e
      · have := la z hz; omega
      · exact e
    · intro hz
      rcases List.mem_cons.1 ((h z).2 (List.mem_cons_of_mem _ hz)) with e | e
      · have := lb z hz; omega
      · exact e
theorem asc_nat {n : Nat} : ∀ (e : List Int) (frm : Nat), Asc n frm e → ∀ x, x ∈ e → ∃ i : Nat, x = i ∧ i < n
  | y :: e, frm, ⟨k, hx, h1, h2, h3⟩, x, hm => by
    rcases List.mem_cons.1 hm with rfl | hm
    · exact ⟨k, hx, h2⟩
    · exact asc_nat e (k + 1) h3 x hm
theorem mems_bits {n : Nat} {e : List Int} (h : Asc n 0 e) : memsTo (bitsN e) n = e := by
  refine asc_ext _ _ 0 (memsTo_asc _ _) h fun x => ?_
  constructor
  · intro hx
    obtain ⟨i, rfl, hi⟩ := asc_nat _ 0 (memsTo_asc (bitsN e) n) x hx
    have h1 := (mem_mems.1 hx).2
    refine Classical.byContradiction fun hn => ?_
    have := (bit_zero h i).2 hn
    omega
  · intro hx
    obtain ⟨i, rfl, hi⟩ := asc_nat _ 0 h x hx
    refine mem_mems.2 ⟨hi, ?_⟩
    have : ¬ ((bitsN e : Nat) : Int) / 2 ^ i % 2 = 0 := fun h0 => (bit_zero h i).1 h0 hx
    omega
/-- the best of the first sets -/
structure BestTo (B : ForgeV) (k : Nat) (bl : List Int) : Prop where
  asc : Asc B.looks.length 0 bl
  can : canS B (bitsN bl) = true
  least : ∀ s : Nat, s < k → canS B s = true → ¬ LtL (memsTo s B.looks.length) bl
theorem best_zero {B : ForgeV} (g : B.Good) : BestTo B 0 (memsTo ((2 ^ B.looks.length - 1 : Nat) : Int) B.looks.length) :=
  ⟨memsTo_asc _ _, by rw [can_mems]; exact can_all g fun i hi => all_bits hi, fun s h => absurd h (Nat.not_lt_zero _)⟩
theorem best_take' {B : ForgeV} {k : Nat} {bl : List Int} (h : BestTo B k bl) (hl : LtL (memsTo k B.looks.length) bl) (hc : canS B k = true) : BestTo B (k + 1) (memsTo k B.looks.length) :=
  ⟨memsTo_asc _ _, by rw [can_mems]; exact hc, fun s hs hcs hlt => by
    rcases Nat.lt_or_eq_of_le (Nat.le_of_lt_succ hs) with h1 | h1
    · exact h.least s h1 hcs (ltL_trans hlt hl)
    · subst h1; exact ltL_irrefl _ hlt⟩
theorem best_leave {B : ForgeV} {k : Nat} {bl : List Int} (h : BestTo B k bl) (hl : canS B k = true → ¬ LtL (memsTo k B.looks.length) bl) : BestTo B (k + 1) bl :=
  ⟨h.asc, h.can, fun s hs hcs => by
    rcases Nat.lt_or_eq_of_le (Nat.le_of_lt_succ hs) with h1 | h1
    · exact h.least s h1 hcs
    · subst h1; exact hl hcs⟩
theorem best_end {B : ForgeV} (g : B.Good) {bl : List Int} (h : BestTo B (2 ^ B.looks.length) bl) : bl = wrongS B := by
  have hw := wrong_ok g
  have h1 : ¬ LtL bl (wrongS B) := fun hl => by
    have := hw.less bl h.asc hl
    rw [h.can] at this; cases this
  have hb := bitsN_lt (wrongS B) 0 (Nat.zero_le _) hw.asc
  have h2 := h.least (bitsN (wrongS B)) (by omega) hw.can
  rw [mems_bits hw.asc] at h2
  by_cases hl : bl.length = (wrongS B).length
  · rcases soonL_total bl (wrongS B) hl with e | e | e
    · exact e
    · exact absurd (.inr ⟨hl, e⟩) h1
    · exact absurd (.inr ⟨hl.symm, e⟩) h2
  · rcases Nat.lt_or_gt_of_ne hl with e | e
    · exact absurd (.inl e) h1
    · exact absurd (.inl e) h2
end
end Go.Proofs.YtgfbfbfajnfbjaaDoor

namespace Go.Proofs.YtgfbfbfajnfbjaaDoor
section
open Go.RowKit Go.Shelf
attribute [local go_sem] Oper.semAt_some
set_option linter.unusedSimpArgs false
set_option linter.unusedVariables false
theorem soonL_irrefl (a : List Int) : ¬ SoonL a a := fun h => soonL_asymm a a h h
theorem soonL_not_at (a b : List Int) (k : Nat) (h1 : k < a.length) (h2 : k < b.length) (h3 : ∀ j, j < k → gi a j = gi b j) (h4 : ¬ gi a k < gi b k) (h5 : ¬ gi a k = gi b k) : ¬ SoonL a b :=
  fun h => soonL_asymm b a (soonL_at b a k h2 h1 (fun j hj => (h3 j hj).symm) (by omega)) h
set_option maxRecDepth 100000 in
set_option maxHeartbeats 2000000 in
theorem refSooner_calls (A : Option Addr) (c : Nat) (a : List Int) (A' : Option Addr) (c' : Nat) (b : List Int) (w : World) (ha : IntsAt w A a) (hb : IntsAt w A' b) (hl : a.length = b.length) :
    Calls Tryd.prog 51 #[.slice A a.length c, .slice A' b.length c'] w fun e w' => (∃ r : Bool, e = .returned (.bool r) ∧ (r = true ↔ SoonL a b)) ∧ Below w.heap.size w w' := by
  rcases Nat.eq_zero_or_pos a.length with h0 | h0
  · have hz : ¬ (0 : Int) < a.length := by omega
    have Hz : Hid (¬ a.length < b.length) := by unfold Hid; omega
    have Hn : Hid (¬ SoonL a b) := by
      unfold Hid
      rw [List.eq_nil_of_length_eq_zero h0]; exact fun h => h
    clear hl h0
    go_enter Tryd.func51, Tryd.ntmps51
    go_wp2
    refine wp_loop_rounds 1 ?_
    rw [rounds_succ]
    go_wp2
    go_ret
    exact ⟨⟨_, rfl, fun h => by have := Hz.out; simp at h; omega, fun h => absurd h Hn.out⟩, Below.refl _ _⟩
  · obtain ⟨xb, xo, rfl, hxc⟩ := ha.2.resolve_left (by intro e; rw [e] at h0; simp at h0)
    obtain ⟨yb, yo, rfl, hyc⟩ := hb.2.resolve_left (by intro e; rw [e] at hl; rw [hl] at h0; simp at h0)
    have hle := ha.1
    have hlb := hb.1
    have Hxc := Lib.hid hxc
    have Hyc := Lib.hid hyc
    have Hl := Lib.hid hl
    have Hz : Hid (¬ a.length < b.length) := by unfold Hid; omega
    clear hl h0 ha hb hxc hyc
    go_enter Tryd.func51, Tryd.ntmps51
    go_wp2
    go_loopg [5] a.length (fun gk i wr => ∃ k : Nat, k ≤ a.length ∧ gk = a.length - k ∧ i = .int .i64 k ∧ (∀ j, j < k → gi a j = gi b j) ∧ Below w.heap.size w wr)
    case atStart => exact ⟨0, Nat.zero_le _, rfl, rfl, fun j hj => absurd hj (by omega), Below.refl _ _⟩
    case round =>
      obtain ⟨k, hk, hgk, rfl, hall, hB⟩ := hrel
      have Hgk := Lib.hid hgk
      have Hall := Lib.hid hall
      have HB := Lib.hid hB
      clear hgk hall
      by_cases hlt : k < a.length
      · have ck := cell_below hB (Hxc.out k hlt)
        have dk := cell_below hB (Hyc.out k (by have := Hl.out; omega))
        have b1 := World.block_lt_of_cell? _ _ ck
        have b2 := World.block_lt_of_cell? _ _ dk
        have hki : (k : Int) < a.length := by omega
        have hkj : (k : Int) < b.length := by have := Hl.out; omega
        simp only at b1 b2
        by_cases hd : gi a k = gi b k
        · have hbe : (gi a k != gi b k) = false := by rw [bne_eq_false_iff_eq]; exact hd
          have Hd := Lib.hid hd
          clear hd
          go_wp2
          go_quiet (fail)
          go_wp2
          go_roundg (a.length - (k + 1))
          case measure => have := Hgk.out; omega
          case rel => exact ⟨k + 1, by omega, rfl, by go_num, fun j hj => (by rcases Nat.lt_or_eq_of_le (Nat.le_of_lt_succ hj) with h | h; exact Hall.out j h; rw [h]; exact Hd.out), below_drewN HB.out _⟩
        · have hbe : (gi a k != gi b k) = true := by rw [bne_iff_ne]; exact hd
          have Hso : Hid (gi a k < gi b k → SoonL a b) := by unfold Hid; exact soonL_at a b k hlt (by have := Hl.out; omega) Hall.out
          have Hsn : Hid (SoonL a b → gi a k < gi b k) := by
            unfold Hid
            intro h
            refine Classical.byContradiction fun hn => ?_
            exact soonL_not_at a b k hlt (by have := Hl.out; omega) Hall.out hn hd h
          clear hd
          go_wp2
          go_quiet (fail)
          go_wp2
          go_quiet (fail)
          go_wp2
          go_ret
          exact ⟨⟨_, rfl, fun h => Hso.out (by simpa using h), fun h => by simpa using Hsn.out h⟩, below_drewN (below_drewN HB.out _) _⟩
      · obtain rfl : k = a.length := by omega
        have Hn : Hid (¬ SoonL a b) := by
          unfold Hid
          rw [show a = b from by apply List.ext_getElem Hl.out; intro i h1 h2; have := Hall.out i h1; unfold gi at this; rwa [List.getD_eq_getElem?_getD, List.getD_eq_getElem?_getD, List.getElem?_eq_getElem h1, List.getElem?_eq_getElem h2] at this]; exact soonL_irrefl b
        go_wp2
        go_ret
        exact ⟨⟨_, rfl, fun h => by have := Hz.out; simp at h; omega, fun h => absurd h Hn.out⟩, HB.out⟩
theorem can_len_s (B : ForgeV) (s : Int) : canS B s = decide (0 < (truthsS B s).length) := by
  unfold canS
  cases truthsS B s <;> simp
theorem wrap_pow8 (n : Nat) (hn : n ≤ 8) : IntKind.i64.wrap (2 ^ n) = 2 ^ n := by
  have : n = 0 ∨ n = 1 ∨ n = 2 ∨ n = 3 ∨ n = 4 ∨ n = 5 ∨ n = 6 ∨ n = 7 ∨ n = 8 := by omega
  rcases this with rfl | rfl | rfl | rfl | rfl | rfl | rfl | rfl | rfl <;> rfl
theorem pow8 (n : Nat) (hn : n ≤ 8) : (2 : Nat) ^ n ≤ 256 := Nat.pow_le_pow_right (n := 2) (by decide) hn
set_option maxRecDepth 100000 in
set_option maxHeartbeats 8000000 in
theorem refWrong_calls (B : ForgeV) (w : World) (hB : B.Reads w) :
    Calls Tryd.prog 36 #[B.val] w fun e w' => (∃ A l c, l = (bif goodF B then wrongS B else []) ∧ e = .returned (.tuple #[.slice A l.length c, .int .i64 (bif goodF B then 0 else 20)]) ∧ IntsAt w' A l) ∧ Below w.heap.size w w' := by
  have HB0 := Lib.hid hB
  have k2 := BoxAt.new w B.cells 28
  have H1 : Below w.heap.size w (w.alloc (.cells B.cells 28)) := (Below.refl _ _).alloc (Nat.le_refl _) _
  have hcells : B.val = .agg B.cells := rfl
  rw [hcells]
  unfold ForgeV.cells at k2 H1 ⊢
  clear hB
  go_enter Tryd.func36, Tryd.ntmps36
  go_upto_region 1 with fail
  generalize w.alloc _ = W1 at *
  have K2 := Lib.hid k2
  have HW1 := Lib.hid H1
  obtain ⟨c2, f2, l2⟩ := k2
  clear H1
  go_wp2_with fail
  refine (eq0_1 (v' := B.val) (by unfold ForgeV.val ForgeV.cells; rfl) (refCheck_calls B _ (HB0.out.below HW1.out))).mono ?_
  rintro e w2 ⟨rfl, hb⟩
  replace HW1 := Lib.hid (below_then HW1.out HW1.out.size hb)
  replace K2 := Lib.hid (K2.out.below hb)
  clear hb c2 f2 l2
  cases hg : goodF B with
  | false =>
    have Hg := Lib.hid hg
    clear hg
    go_wp2
    go_ret2
    exact ⟨⟨none, [], 0, by rw [Hg.out]; rfl, by rw [Hg.out] <;> rfl, ⟨by simp, .inl rfl⟩⟩, HW1.out⟩
  | true =>
    have Hgg := Lib.hid hg
    have Hg := Lib.hid ((goodF_iff B).1 hg)
    have Hend := Lib.hid (fun bl h => best_end (B := B) Hg.out (bl := bl) h)
    have hb0 := best_zero Hg.out
    have hl8 := Hg.out.looksLen
    have Htk := Lib.hid (fun k bl (h : BestTo B k bl) => best_take' h)
    have Hlv := Lib.hid (fun k bl (h : BestTo B k bl) => best_leave h)
    have hp8 := pow8 B.looks.length hl8
    have hcast : ((2 ^ B.looks.length : Nat) : Int) = 2 ^ B.looks.length := by push_cast; rfl
    have hpw : (2 : Int) ^ min ((B.looks.length : Int).toNat) 64 = 2 ^ B.looks.length := by rw [show min ((B.looks.length : Int).toNat) 64 = B.looks.length by omega]
    have hwp := wrap_pow8 B.looks.length hl8
    have h1p : 1 ≤ 2 ^ B.looks.length := Nat.one_le_two_pow
    obtain ⟨M, hM⟩ : ∃ M, 2 ^ B.looks.length = M := ⟨_, rfl⟩
    rw [hM] at hcast hp8 h1p hb0
    have hend := Hend.out
    rw [hM] at hend
    have Hend2 := Lib.hid hend
    have hMi : (2 : Int) ^ B.looks.length = (M : Int) := hcast.symm
    have hwm : IntKind.i64.wrap (M : Int) = M := wrap_in (by omega) (by omega)
    have hw1 : IntKind.i64.wrap ((M : Int) - 1) = ((M - 1 : Nat) : Int) := by rw [wrap_in (by omega) (by omega)]; omega
    have hb09 : BestTo B 0 (memsTo ((M - 1 : Nat) : Int) B.looks.length) := hb0
    have Hb0 := Lib.hid hb09
    clear hcast hend hb0 Hend hM hb09
    obtain ⟨c2, f2, l2⟩ := K2.out
    go_wp2_with (go_at_call 62; refine (Members_calls ((M - 1 : Nat) : Int) (by omega) B.looks.length hl8 _).mono ?_; rintro e w3 ⟨⟨A6, c6, rfl, hl6⟩, hb3⟩; have K23 := Lib.hid (K2.out.below hb3); have HW3 := Lib.hid (below_then HW1.out HW1.out.size hb3); have Hl6 := Lib.hid hl6; clear hb3 hl6 c2 f2 l2)
    generalize memsTo ((M - 1 : Nat) : Int) B.looks.length = b0 at *
    go_loopg [7, 6] M (fun gq i v wr => ∃ k : Nat, ∃ A bl c, k ≤ M ∧ gq = M - k ∧ i = .int .i64 k ∧ v = .slice A bl.length c ∧ IntsAt wr A bl ∧ BestTo B k bl ∧ Below w3.heap.size w3 wr)
    case atStart => exact ⟨0, A6, b0, c6, Nat.zero_le _, rfl, rfl, rfl, Hl6.out, Hb0.out, Below.refl _ _⟩
    case round =>
      obtain ⟨k, BA, bl, bc, hk, hgk, rfl, rfl, hbi, hbt, hbe⟩ := hrel
      have Hgk := Lib.hid hgk
      have Hbi := Lib.hid hbi
      have Hbt := Lib.hid hbt
      have Hbe := Lib.hid hbe
      have HBr := Lib.hid (below_then HW3.out HW3.out.size hbe)
      obtain ⟨c2, f2, l2⟩ := K23.out.below hbe
      have hble : bl.length ≤ 9223372036854775807 := hbi.1
      clear hgk hbi hbt hbe
      by_cases hlt : k < M
      · have hki : (k : Int) < M := by omega
        have hk8 : 0 ≤ (k : Int) ∧ (k : Int) < 256 := by omega
        have Hk8 := Lib.hid hk8
        have hcl := can_len_s B (k : Int)
        have Hcl := Lib.hid hcl
        have Htk1 := Lib.hid (fun h1 h2 => Htk.out k bl Hbt.out h1 h2)
        have Hlv1 := Lib.hid (fun h => Hlv.out k bl Hbt.out h)
        have hml := memsTo_le (k : Int) B.looks.length
        clear hcl hk8
        go_upto_region 10 with (go_at_call 62; refine (Members_calls (k : Int) Hk8.out B.looks.length hl8 _).mono ?_; rintro e w4 ⟨⟨A8, c8, rfl, hl8'⟩, hb4⟩)
        have Hl9 := Lib.hid hl8'
        have Hbi4 := Lib.hid (Hbi.out.below hb4)
        have Hbe4 := Lib.hid (below_then Hbe.out Hbe.out.size hb4)
        have HB4 := Lib.hid (below_then HBr.out HBr.out.size hb4)
        clear hl8' hb4 c2 f2 l2
        obtain ⟨c2, f2, l2⟩ := K23.out.below Hbe4.out
        generalize memsTo (k : Int) B.looks.length = l at *
        rcases Nat.lt_trichotomy l.length bl.length with hc | hc | hc
        · have h1 : (l.length : Int) < bl.length := by omega
          have Hlt : Hid (LtL l bl) := Lib.hid (.inl hc)
          clear hc
          as_aux_lemma =>
            go_wp2_with fail
            refine (eq0_2 (v' := B.val) (by unfold ForgeV.val ForgeV.cells; rfl) (refTruths_calls B Hg.out (k : Int) Hk8.out _ (HB0.out.below HB4.out))).mono ?_
            rintro e w6 ⟨⟨TA, tc, rfl, _⟩, hb6⟩
            have Hl7 := Lib.hid (Hl9.out.below hb6)
            have Hbi7 := Lib.hid (Hbi4.out.below hb6)
            have Hbe7 := Lib.hid (below_then Hbe4.out Hbe4.out.size hb6)
            clear hb6 c2 f2 l2
            generalize (truthsS B (k : Int)).length = tl at *
            by_cases ht : 0 < tl
            · have hti : (0 : Int) < tl := by omega
              have hcan := Hcl.out
              rw [decide_eq_true ht] at hcan
              have Hn2 := Lib.hid (Htk1.out Hlt.out hcan)
              clear hcan ht
              go_wp2
              go_roundg (M - (k + 1))
              case measure => have := Hgk.out; omega
              case rel => exact ⟨k + 1, A8, l, c8, by omega, rfl, by go_num, rfl, Hl7.out, Hn2.out, Hbe7.out⟩
            · have hti : ¬ (0 : Int) < tl := by omega
              have hcan := Hcl.out
              rw [decide_eq_false ht] at hcan
              have Hn2 := Lib.hid (Hlv1.out (fun h => by rw [hcan] at h; cases h))
              clear hcan ht
              go_wp2
              go_roundg (M - (k + 1))
              case measure => have := Hgk.out; omega
              case rel => exact ⟨k + 1, BA, bl, bc, by omega, rfl, by go_num, rfl, Hbi7.out, Hn2.out, Hbe7.out⟩

        · have h1 : ¬ (l.length : Int) < bl.length := by omega
          have h2 : ((l.length : Int) == bl.length) = true := by simp [hc]
          have Hc := Lib.hid hc
          clear hc
          as_aux_lemma =>
            go_wp2_with fail
            refine (refSooner_calls A8 c8 l BA bc bl _ Hl9.out Hbi4.out Hc.out).mono ?_
            rintro e w5 ⟨⟨r, rfl, hr⟩, hb5⟩
            have Hr := Lib.hid hr
            have Hl9 := Lib.hid (Hl9.out.below hb5)
            have Hbi4 := Lib.hid (Hbi4.out.below hb5)
            have Hbe4 := Lib.hid (below_then Hbe4.out Hbe4.out.size hb5)
            have HB4 := Lib.hid (below_then HB4.out HB4.out.size hb5)
            clear hb5 hr c2 f2 l2
            obtain ⟨c2, f2, l2⟩ := K23.out.below Hbe4.out
            cases r with
            | true =>
              have Hlt : Hid (LtL l bl) := Lib.hid (.inr ⟨Hc.out, Hr.out.1 rfl⟩)
              go_wp2_with fail
              refine (eq0_2 (v' := B.val) (by unfold ForgeV.val ForgeV.cells; rfl) (refTruths_calls B Hg.out (k : Int) Hk8.out _ (HB0.out.below HB4.out))).mono ?_
              rintro e w6 ⟨⟨TA, tc, rfl, _⟩, hb6⟩
              have Hl7 := Lib.hid (Hl9.out.below hb6)
              have Hbi7 := Lib.hid (Hbi4.out.below hb6)
              have Hbe7 := Lib.hid (below_then Hbe4.out Hbe4.out.size hb6)
              clear hb6 c2 f2 l2
              generalize (truthsS B (k : Int)).length = tl at *
              by_cases ht : 0 < tl
              · have hti : (0 : Int) < tl := by omega
                have hcan := Hcl.out
                rw [decide_eq_true ht] at hcan
                have Hn2 := Lib.hid (Htk1.out Hlt.out hcan)
                clear hcan ht
                go_wp2
                go_roundg (M - (k + 1))
                case measure => have := Hgk.out; omega
                case rel => exact ⟨k + 1, A8, l, c8, by omega, rfl, by go_num, rfl, Hl7.out, Hn2.out, Hbe7.out⟩
              · have hti : ¬ (0 : Int) < tl := by omega
                have hcan := Hcl.out
                rw [decide_eq_false ht] at hcan
                have Hn2 := Lib.hid (Hlv1.out (fun h => by rw [hcan] at h; cases h))
                clear hcan ht
                go_wp2
                go_roundg (M - (k + 1))
                case measure => have := Hgk.out; omega
                case rel => exact ⟨k + 1, BA, bl, bc, by omega, rfl, by go_num, rfl, Hbi7.out, Hn2.out, Hbe7.out⟩

            | false =>
              have Hnl : Hid (¬ LtL l bl) := Lib.hid (by
                rintro (h | ⟨_, h⟩)
                · have := Hc.out; omega
                · have := Hr.out.2 h; cases this)
              go_wp2
              go_roundg (M - (k + 1))
              case measure => have := Hgk.out; omega
              case rel => exact ⟨k + 1, BA, bl, bc, by omega, rfl, by go_num, rfl, Hbi4.out, Hlv1.out (fun _ => Hnl.out), Hbe4.out⟩
        · have h1 : ¬ (l.length : Int) < bl.length := by omega
          have h2 : ((l.length : Int) == bl.length) = false := by rw [beq_eq_false_iff_ne]; omega
          have Hnl : Hid (¬ LtL l bl) := Lib.hid (by rintro (h | ⟨h, _⟩) <;> omega)
          clear hc
          as_aux_lemma =>
            go_wp2
            go_roundg (M - (k + 1))
            case measure => have := Hgk.out; omega
            case rel => exact ⟨k + 1, BA, bl, bc, by omega, rfl, by go_num, rfl, Hbi4.out, Hlv1.out (fun _ => Hnl.out), Hbe4.out⟩
      · obtain rfl : k = M := by omega
        have hki : ¬ (k : Int) < k := by omega
        have hfin := Hend2.out bl Hbt.out
        have Hfin := Lib.hid hfin
        have hbi9 := Hbi.out
        rw [hfin] at hbi9
        have Hbi9 := Lib.hid hbi9
        clear hfin hbi9
        go_wp2
        go_ret2
        exact ⟨by first | exact ⟨BA, bl, bc, by rw [Hgg.out, Hfin.out]; rfl, by rw [Hgg.out] <;> rfl, Hbi.out⟩ | exact ⟨BA, ⟨bc, by rw [← Hfin.out] <;> rfl⟩, Hbi9.out⟩, HBr.out⟩
attribute [local go_sem] eqSpan
theorem wrongR_all {B : ForgeV} {e : Ending} {w' : World} (h : WrongR B e w') : ∃ A c, e = .returned (.tuple #[.slice A (bif goodF B then wrongS B else []).length c, .int .i64 (bif goodF B then 0 else 20)]) ∧ IntsAt w' A (bif goodF B then wrongS B else []) := by
  rcases h with ⟨h1, h2⟩ | ⟨h1, A, h2, h3⟩
  · rw [h1]; exact ⟨none, 0, h2, ⟨by simp, .inl rfl⟩⟩
  · rw [h1]; exact ⟨A, _, h2, h3⟩
theorem thickR_two (B : ForgeV) (n : Int) : ∃ a b f, thickR B n = .tuple #[.agg #[.int .i64 a, .int .i64 b], .int .i64 f] := by
  unfold thickR
  split
  · exact ⟨_, _, _, rfl⟩
  · exact ⟨_, _, _, rfl⟩
set_option maxRecDepth 100000 in
set_option maxHeartbeats 4000000 in
theorem ForgeStrengths_calls (B : ForgeV) (n0 n1 : Int) (w : World) (hB : B.Reads w) (hM : EndsAt w) :
    Calls Tryd.prog 5 #[B.val, .agg #[.int .i64 n0, .int .i64 n1]] w fun e w' => e = .returned (.bool true) ∧ Below w.heap.size w w' := by
  have HB0 := Lib.hid hB
  have HM0 := Lib.hid hM
  clear hB hM
  have hcells : B.val = .agg B.cells := rfl
  rw [hcells]
  unfold ForgeV.cells
  go_enter Tryd.func5, Tryd.ntmps5
  go_upto_region 1 with fail
  have k3 := (BoxAt.new w B.cells 28).alloc (.cells #[.int .i64 n0, .int .i64 n1] 47)
  have k5 := BoxAt.new (w.alloc (.cells B.cells 28)) #[.int .i64 n0, .int .i64 n1] 47
  have H1 : Below w.heap.size w ((w.alloc (.cells B.cells 28)).alloc (.cells #[.int .i64 n0, .int .i64 n1] 47)) := ((Below.refl _ _).alloc (Nat.le_refl _) _).alloc (by simp) _
  unfold ForgeV.cells at k3 k5 H1
  simp only [World.size_alloc] at k5
  generalize World.alloc (World.alloc w _) _ = w1 at *
  have hn5 : w.heap.size < w.heap.size + 1 := Nat.lt_succ_self _
  generalize w.heap.size + 1 = n5 at *
  have H2 := Lib.hid H1
  have K3 := Lib.hid k3
  have K5 := Lib.hid k5
  obtain ⟨c3, f3, l3⟩ := k3
  obtain ⟨c5, f5, l5⟩ := k5
  clear H1
  go_wp2_with fail
  refine (eq0_2 (v' := B.val) (by unfold ForgeV.val ForgeV.cells; rfl) (Strength_calls B n0 _ (HB0.out.below H2.out))).mono ?_
  rintro e w2 ⟨hc, hb⟩
  obtain ⟨A2, d2, rfl, hi2⟩ := strengthR_all hc
  replace K3 := Lib.hid (K3.out.below hb)
  replace K5 := Lib.hid (K5.out.below hb)
  replace H2 := Lib.hid (below_then H2.out H2.out.size hb)
  clear hc hb c3 f3 l3 c5 f5 l5
  obtain ⟨c3, f3, l3⟩ := K3.out
  obtain ⟨c5, f5, l5⟩ := K5.out
  go_wp2_with fail
  refine (eq0_2 (v' := B.val) (by unfold ForgeV.val ForgeV.cells; rfl) (refStrength_calls B n0 _ (HB0.out.below H2.out))).mono ?_
  rintro e w3 ⟨⟨A3, d3, rfl, hi3⟩, hb⟩
  have Hi2 := Lib.hid (hi2.below hb)
  have Hi3 := Lib.hid hi3
  replace K3 := Lib.hid (K3.out.below hb)
  replace K5 := Lib.hid (K5.out.below hb)
  replace H2 := Lib.hid (below_then H2.out H2.out.size hb)
  clear hb c3 f3 l3 c5 f5 l5 hi2 hi3
  generalize strL B n0 = q at *
  generalize askedE B (inB n0 0 2) = f0 at *
  have hff : (f0 != f0) = false := by simp
  go_wp2_with fail
  refine (Equal_calls A2 d2 q A3 d3 q _ Hi2.out Hi3.out).mono ?_
  rintro e w4 ⟨rfl, hb⟩
  rw [eqL_self]
  replace K3 := Lib.hid (K3.out.below hb)
  replace K5 := Lib.hid (K5.out.below hb)
  replace H2 := Lib.hid (below_then H2.out H2.out.size hb)
  clear hb Hi2 Hi3
  obtain ⟨a, b, g, hth⟩ := thickR_two B n1
  have Hth := Lib.hid hth
  clear hth
  obtain ⟨c3, f3, l3⟩ := K3.out
  obtain ⟨c5, f5, l5⟩ := K5.out
  go_wp2_with fail
  refine (eq0_2 (v' := B.val) (by unfold ForgeV.val ForgeV.cells; rfl) (Thick_calls B n1 _ (HB0.out.below H2.out))).mono ?_
  rintro e w5 ⟨rfl, hb⟩
  rw [Hth.out]
  replace K3 := Lib.hid (K3.out.below hb)
  replace K5 := Lib.hid (K5.out.below hb)
  replace H2 := Lib.hid (below_then H2.out H2.out.size hb)
  clear hb c3 f3 l3 c5 f5 l5
  obtain ⟨c3, f3, l3⟩ := K3.out
  obtain ⟨c5, f5, l5⟩ := K5.out
  go_upto_region 6 with (fail)
  have k9 := BoxAt.new w5 #[.int .i64 a, .int .i64 b] 24
  have hb : Below w5.heap.size w5 (w5.alloc (.cells #[.int .i64 a, .int .i64 b] 24)) := (Below.refl _ _).alloc (Nat.le_refl _) _
  generalize w5.alloc _ = w6 at *
  replace K3 := Lib.hid (K3.out.below hb)
  replace K5 := Lib.hid (K5.out.below hb)
  replace H2 := Lib.hid (below_then H2.out H2.out.size hb)
  generalize w5.heap.size = n9 at *
  have K9 := Lib.hid k9
  clear hb c3 f3 l3 c5 f5 l5 k9
  obtain ⟨c3, f3, l3⟩ := K3.out
  obtain ⟨c5, f5, l5⟩ := K5.out
  go_wp2_with fail
  refine (eq0_2 (v' := B.val) (by unfold ForgeV.val ForgeV.cells; rfl) (refThick_calls B n1 _ (HB0.out.below H2.out))).mono ?_
  rintro e w7 ⟨rfl, hb⟩
  rw [Hth.out]
  replace K3 := Lib.hid (K3.out.below hb)
  replace K9 := Lib.hid (K9.out.below hb)
  replace H2 := Lib.hid (below_then H2.out H2.out.size hb)
  clear hb c3 f3 l3 c5 f5 l5 K5
  have hgg : (g != g) = false := by simp
  go_upto_region 7 with (fail)
  have k10 := BoxAt.new w7 #[.int .i64 a, .int .i64 b] 24
  have hb : Below w7.heap.size w7 (w7.alloc (.cells #[.int .i64 a, .int .i64 b] 24)) := (Below.refl _ _).alloc (Nat.le_refl _) _
  generalize w7.alloc _ = w8 at *
  replace K3 := Lib.hid (K3.out.below hb)
  replace K9 := Lib.hid (K9.out.below hb)
  replace H2 := Lib.hid (below_then H2.out H2.out.size hb)
  generalize w7.heap.size = n10 at *
  clear hb
  obtain ⟨c3, f3, l3⟩ := K3.out
  obtain ⟨c9, f9, l9⟩ := K9.out
  obtain ⟨c10, f10, l10⟩ := k10
  go_wp2_with fail
  refine (eq0_1 (v' := B.val) (by unfold ForgeV.val ForgeV.cells; rfl) (Wrong_calls B _ (HB0.out.below H2.out))).mono ?_
  rintro e w9 ⟨hc, hb⟩
  obtain ⟨A9, d9, rfl, hi9⟩ := wrongR_all hc
  replace K3 := Lib.hid (K3.out.below hb)
  replace H2 := Lib.hid (below_then H2.out H2.out.size hb)
  clear hc hb c3 f3 l3 c9 f9 l9 c10 f10 l10 K9
  obtain ⟨c3, f3, l3⟩ := K3.out
  go_wp2_with fail
  refine (eq0_1 (v' := B.val) (by unfold ForgeV.val ForgeV.cells; rfl) (refWrong_calls B _ (HB0.out.below H2.out))).mono ?_
  rintro e w10 ⟨⟨A10, l10, d10, rfl, rfl, hi10⟩, hb⟩
  have Hi9 := Lib.hid (hi9.below hb)
  have Hi10 := Lib.hid hi10
  replace H2 := Lib.hid (below_then H2.out H2.out.size hb)
  clear hb c3 f3 l3 hi9 hi10 K3
  generalize (bif goodF B then wrongS B else []) = q2 at *
  generalize (bif goodF B then (0 : Int) else 20) = f2 at *
  have hf2 : (f2 == f2) = true := by simp
  go_wp2_with fail
  refine (Equal_calls A9 d9 q2 A10 d10 q2 _ Hi9.out Hi10.out).mono ?_
  rintro e w11 ⟨rfl, hb⟩
  rw [eqL_self]
  replace H2 := Lib.hid (below_then H2.out H2.out.size hb)
  clear hb Hi9 Hi10
  go_wp2_with fail
  refine (works_calls _ (HM0.out.below H2.out)).mono ?_
  rintro e w12 ⟨rfl, hb⟩
  go_wp2
  go_ret
  exact ⟨rfl, below_then H2.out H2.out.size hb⟩
end
end Go.Proofs.YtgfbfbfajnfbjaaDoor
