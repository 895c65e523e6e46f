/- PROVED: ForgeMelts (the walk): the law returns true, whatever the book and the numbers. -/
import Derived.Test.YtgfbfbfajnfbjaaDoorCX
import Derived.Test.YtgfbfbfajnfbjaaDoorBF
namespace Go.Proofs.YtgfbfbfajnfbjaaDoor
section
open Go.RowKit Go.Shelf
set_option linter.unusedSimpArgs false
set_option linter.unusedVariables false
def castL (B : ForgeV) (many : Int) : List Int := bif goodF B && inB many 1 24 then (bestOf (meltsS B (stockS B) many)).getD [] else []
def castE (B : ForgeV) (many : Int) : Int := bif goodF B then (bif inB many 1 24 then (match bestOf (meltsS B (stockS B) many) with | none => 4 | some _ => 0) else 21) else 20
theorem castR_all {B : ForgeV} {many : Int} {e : Ending} {w' : World} (h : CastR B many e w') : ∃ A c, e = .returned (.tuple #[.slice A (castL B many).length c, .int .i64 (castE B many)]) ∧ IntsAt w' A (castL B many) := by
  unfold castL castE
  rcases h with ⟨h1, h2⟩ | ⟨h0, h1, h2⟩ | ⟨h0, h1, h2, h3⟩ | ⟨h0, h1, q, A, h2, h3, h4⟩
  · rw [h1]; exact ⟨none, 0, h2, ⟨by simp, .inl rfl⟩⟩
  · rw [h0, h1]; exact ⟨none, 0, h2, ⟨by simp, .inl rfl⟩⟩
  · rw [h0, h1, h2]; exact ⟨none, 0, h3, ⟨by simp, .inl rfl⟩⟩
  · rw [h0, h1, h2]; exact ⟨A, q.length, h3, h4⟩
theorem refCastR_all {B : ForgeV} {many : Int} {e : Ending} {w' : World} (h : RefCastR B many e w') : ∃ A c, e = .returned (.tuple #[.slice A (castL B many).length c, .int .i64 (castE B many)]) ∧ IntsAt w' A (castL B many) := by
  unfold castL castE
  rcases h with ⟨h1, h2⟩ | ⟨h0, h1, h2⟩ | ⟨h0, h1, h2, h3⟩ | ⟨h0, h1, q, A, c, h2, h3, h4⟩
  · rw [h1]; exact ⟨none, 0, h2, ⟨by simp, .inl rfl⟩⟩
  · rw [h0, h1]; exact ⟨none, 0, h2, ⟨by simp, .inl rfl⟩⟩
  · rw [h0, h1, h2]; exact ⟨none, 0, h3, ⟨by simp, .inl rfl⟩⟩
  · rw [h0, h1, h2]; exact ⟨A, c, h3, h4⟩
theorem isMeltR_two (B : ForgeV) (l : List Int) : ∃ b f, isMeltR B l = .tuple #[.bool b, .int .i64 f] := by
  unfold isMeltR
  cases goodF B
  · exact ⟨_, _, rfl⟩
  · exact ⟨_, _, rfl⟩
theorem mostR_two (B : ForgeV) : ∃ n f, mostR B = .tuple #[.int .i64 n, .int .i64 f] := by
  unfold mostR
  cases goodF B
  · exact ⟨_, _, rfl⟩
  · rw [cond_true]
    split
    · exact ⟨_, _, rfl⟩
    · exact ⟨_, _, rfl⟩
end
section
open Go.RowKit Go.Shelf
attribute [local go_sem] Oper.semAt_some
set_option linter.unusedSimpArgs false
set_option linter.unusedVariables false
set_option maxRecDepth 100000 in
set_option maxHeartbeats 4000000 in
theorem refMost_calls (B : ForgeV) (w : World) (hB : B.Reads w) :
    Calls Tryd.prog 26 #[B.val] w fun e w' => e = .returned (mostR B) ∧ Below w.heap.size w w' := by
  have HB0 := Lib.hid hB
  have hr : mostR B = bif goodF B then (if mostS B 24 = 0 then .tuple #[.int .i64 0, .int .i64 4] else .tuple #[.int .i64 (mostS B 24 : Nat), .int .i64 0]) else .tuple #[.int .i64 0, .int .i64 20] := rfl
  have Hr := Lib.hid hr
  have k1 := BoxAt.new w B.cells 28
  have H1 : Below w.heap.size w (w.alloc (.cells B.cells 28)) := (Below.refl _ _).alloc (Nat.le_refl _) _
  have hcells : B.val = .agg B.cells := rfl
  rw [hcells]
  unfold ForgeV.cells at k1 H1 ⊢
  clear hB hr
  go_enter Tryd.func26, Tryd.ntmps26
  go_upto_region 1 with fail
  generalize w.alloc _ = W1 at *
  have K2 := Lib.hid k1
  have HW1 := Lib.hid H1
  obtain ⟨c2, f2, l2⟩ := k1
  clear H1
  go_wp2_with fail
  refine (eq0_1 (v' := B.val) (by unfold ForgeV.val ForgeV.cells; rfl) (refCheck_calls B _ (HB0.out.below HW1.out))).mono ?_
  rintro e w2 ⟨rfl, hb⟩
  replace HW1 := Lib.hid (below_then HW1.out HW1.out.size hb)
  replace K2 := Lib.hid (K2.out.below hb)
  clear hb c2 f2 l2
  cases hg : goodF B with
  | false =>
    have Hf : Hid (mostR B = .tuple #[.int .i64 0, .int .i64 20]) := by unfold Hid; rw [Hr.out, hg]; rfl
    clear hg
    go_wp2
    go_ret2
    exact ⟨by rw [Hf.out] <;> rfl, HW1.out⟩
  | true =>
    have Hg := Lib.hid ((goodF_iff B).1 hg)
    have Hf : Hid (mostR B = if mostS B 24 = 0 then .tuple #[.int .i64 0, .int .i64 4] else .tuple #[.int .i64 (mostS B 24 : Nat), .int .i64 0]) := by unfold Hid; rw [Hr.out, hg]; rfl
    clear hg Hr
    have hsl : (stockS B).length = B.lots.length := by simp [stockS]
    have Hsl := Lib.hid hsl
    clear hsl
    have hm4 := Hg.out.many.2
    go_wp2
    go_loopg [5] 24 (fun gq i wr => ∃ k : Nat, k ≤ 24 ∧ gq = k ∧ i = .int .i64 k ∧ mostS B 24 = mostS B k ∧ Below w2.heap.size w2 wr)
    case atStart => exact ⟨24, Nat.le_refl _, rfl, rfl, rfl, Below.refl _ _⟩
    case round =>
      obtain ⟨k, hk, hgk, rfl, hmo, hbe⟩ := hrel
      have Hgk := Lib.hid hgk
      have Hmo := Lib.hid hmo
      have Hbe := Lib.hid hbe
      have HBr := Lib.hid (below_then HW1.out HW1.out.size hbe)
      obtain ⟨c2, f2, l2⟩ := K2.out.below hbe
      clear hgk hmo hbe
      by_cases h0 : k = 0
      · subst h0
        have hki : ¬ (1 : Int) ≤ ((0 : Nat) : Int) := by decide
        have Hz : Hid (mostR B = .tuple #[.int .i64 0, .int .i64 4]) := by unfold Hid; rw [Hf.out, Hmo.out]; rfl
        go_wp2
        go_ret2
        exact ⟨by rw [Hz.out] <;> rfl, HBr.out⟩
      · obtain ⟨k', rfl⟩ : ∃ k', k = k' + 1 := ⟨k - 1, by omega⟩
        have hki : (1 : Int) ≤ ((k' + 1 : Nat) : Int) := by omega
        have hcast : ((k' : Int) + 1) = ((k' + 1 : Nat) : Int) := by omega
        have hmst : mostS B (k' + 1) = if (meltsS B (stockS B) ((k' : Int) + 1)).isEmpty then mostS B k' else k' + 1 := rfl
        rw [hcast] at hmst
        have Hmst := Lib.hid hmst
        have hml : (meltsS B (stockS B) ((k' + 1 : Nat) : Int)).length ≤ 100000 := Nat.le_trans (List.length_filter_le _ _) (Nat.le_trans (choices_len _ _ (stock_bd Hg.out)) (Nat.le_trans (Nat.pow_le_pow_right (by omega) (by rw [Hsl.out]; exact hm4)) (by decide)))
        have hwx : IntKind.i64.wrap (((k' + 1 : Nat) : Int) - 1) = (k' : Int) := by rw [wrap_in (by omega) (by omega)]; omega
        generalize hkk : ((k' + 1 : Nat) : Int) = kk at *
        have Hkk := Lib.hid hkk
        have hkb : 1 ≤ kk ∧ kk ≤ 24 := by omega
        have Hkb := Lib.hid hkb
        clear hcast hmst hkk h0 hkb
        go_upto_region 7 with (fail)
        refine region_plain (S := fun w' => Below wr.heap.size wr w') 7 (by kernel_rfl) ?_ (fun hHeld => ?_)
        · exact (Below.refl _ _).drew
        first | (refine anyT_take 0 (some 15) (v := ?_) rfl rfl (by kernel_rfl) (by kernel_rfl) (by kernel_rfl) (by kernel_rfl) (fun _ _ _ h => h) (Or.inl ⟨by rfl, ?_⟩) hHeld ?_; rotate_left; focus (intro wq hSw; obtain ⟨hcq, hfq⟩ := bcell hSw; go_simp; (try with_reducible rfl); done))
        (try simp only [Act.put, List.setIfInBounds_toArray, List.set_cons_zero, List.set_cons_succ])
        first | (refine anyT_take 1 (some 16) (v := ?_) rfl rfl (by kernel_rfl) (by kernel_rfl) (by kernel_rfl) (by kernel_rfl) (fun _ _ _ h => h) (Or.inl ⟨by rfl, ?_⟩) hHeld ?_; rotate_left; focus (intro wq hSw; obtain ⟨hcq, hfq⟩ := bcell hSw; go_simp; (try with_reducible rfl); done))
        (try simp only [Act.put, List.setIfInBounds_toArray, List.set_cons_zero, List.set_cons_succ])
        first | (refine anyT_take 3 (some 18) (v := ?_) rfl rfl (by kernel_rfl) (by kernel_rfl) (by kernel_rfl) (by kernel_rfl) (fun _ _ _ h => h) (Or.inl ⟨by rfl, ?_⟩) hHeld ?_; rotate_left; focus (intro wq hSw; obtain ⟨hcq, hfq⟩ := bcell hSw; go_simp; (try with_reducible rfl); done))
        (try simp only [Act.put, List.setIfInBounds_toArray, List.set_cons_zero, List.set_cons_succ])
        refine anyT_one 2 (by kernel_rfl) rfl (fun K hK => ?_)
        go_simp
        refine (eq0_1 (v' := B.val) (by unfold ForgeV.val ForgeV.cells; rfl) (refStock_calls B Hg.out _ (HB0.out.below (below_then HBr.out HBr.out.size hHeld)))).mono ?_; rintro e w5 ⟨⟨sA, sc, rfl, hsi, hsc⟩, hb5⟩
        refine hK.out _ _ ?_ (fun hHeld => ?_)
        · exact below_then hHeld hHeld.size hb5
        clear hK K
        (try simp only [Act.put, List.setIfInBounds_toArray, List.set_cons_zero, List.set_cons_succ])
        refine anyT_one 4 (by kernel_rfl) rfl (fun K hK => ?_)
        have hst := refMelts_calls B Hg.out (stockS B) kk sA sc w5 (HB0.out.below (below_then HBr.out HBr.out.size hHeld)) Hsl.out (stock_bd Hg.out) (by have := Hkb.out; omega) hsi (by rw [Hsl.out]; exact hsc); rw [Hsl.out] at hst
        go_simp
        refine (eq0_3 (v' := B.val) (by unfold ForgeV.val ForgeV.cells; rfl) hst).mono ?_; rintro e w6 ⟨⟨mA, mc, rfl, hrf, hmc⟩, hb6⟩
        refine hK.out _ _ ?_ (fun hHeld => ?_)
        · exact below_then hHeld hHeld.size hb6
        clear hK K
        (try simp only [Act.put, List.setIfInBounds_toArray, List.set_cons_zero, List.set_cons_succ])
        first | (refine anyT_take 5 (some 20) (v := ?_) rfl rfl (by kernel_rfl) (by kernel_rfl) (by kernel_rfl) (by kernel_rfl) (fun _ _ _ h => h) (Or.inl ⟨by rfl, ?_⟩) hHeld ?_; rotate_left; focus (intro wq hSw; obtain ⟨hcq, hfq⟩ := bcell hSw; go_simp; (try with_reducible rfl); done))
        (try simp only [Act.put, List.setIfInBounds_toArray, List.set_cons_zero, List.set_cons_succ])
        first | (refine anyT_take 6 (some 21) (v := ?_) rfl rfl (by kernel_rfl) (by kernel_rfl) (by kernel_rfl) (by kernel_rfl) (fun _ _ _ h => h) (Or.inl ⟨by rfl, ?_⟩) hHeld ?_; rotate_left; focus (intro wq hSw; obtain ⟨hcq, hfq⟩ := bcell hSw; go_simp; (try with_reducible rfl); done))
        (try simp only [Act.put, List.setIfInBounds_toArray, List.set_cons_zero, List.set_cons_succ])
        refine anyT_done (by kernel_rfl) ?_ _
        have Hbe6 := Lib.hid (below_then Hbe.out Hbe.out.size hHeld)
        have HB6 := Lib.hid (below_then HBr.out HBr.out.size hHeld)
        clear hHeld hb5 hb6 hst hsi hrf c2 f2 l2
        generalize meltsS B (stockS B) kk = ms at *
        by_cases hz : 0 < ms.length
        · have hzi : (0 : Int) < ms.length := by omega
          have Hm2 : Hid (mostR B = .tuple #[.int .i64 kk, .int .i64 0]) := by
            have he : ms.isEmpty = false := by rw [List.isEmpty_eq_false_iff]; intro e; rw [e] at hz; simp at hz
            unfold Hid
            rw [Hf.out, Hmo.out, Hmst.out, he, if_neg (by simp), if_neg (by simp), Hkk.out]
          go_wp2
          go_ret2
          exact ⟨by rw [Hm2.out] <;> rfl, HB6.out⟩
        · have hzi : ¬ (0 : Int) < ms.length := by omega
          have Hm2 : Hid (mostS B 24 = mostS B k') := by
            have he : ms.isEmpty = true := by rw [List.isEmpty_iff]; exact List.eq_nil_of_length_eq_zero (by omega)
            unfold Hid
            rw [Hmo.out, Hmst.out, he, if_pos rfl]
          go_wp2
          go_roundg k'
          case measure => have := Hgk.out; omega
          case rel => exact ⟨k', by omega, rfl, by first | rfl | rw [hwx], Hm2.out, Hbe6.out⟩
set_option maxRecDepth 100000 in
set_option maxHeartbeats 4000000 in
theorem ForgeMelts_calls (B : ForgeV) (A' : Option Addr) (c' : Nat) (l : List Int) (many : Int) (w : World) (hB : B.Reads w) (hp : IntsAt w A' l) (hM : EndsAt w) :
    Calls Tryd.prog 3 #[B.val, .slice A' l.length c', .int .i64 many] w fun e w' => e = .returned (.bool true) ∧ Below w.heap.size w w' := by
  have HB0 := Lib.hid hB
  have HM0 := Lib.hid hM
  have Hp0 := Lib.hid hp
  clear hB hM hp
  have hcells : B.val = .agg B.cells := rfl
  rw [hcells]
  unfold ForgeV.cells
  go_enter Tryd.func3, Tryd.ntmps3
  go_upto_region 1 with fail
  have k3 := BoxAt.new w B.cells 28
  have H1 : Below w.heap.size w (w.alloc (.cells B.cells 28)) := (Below.refl _ _).alloc (Nat.le_refl _) _
  unfold ForgeV.cells at k3 H1
  generalize w.alloc _ = w1 at *
  have H2 := Lib.hid H1
  have K3 := Lib.hid k3
  obtain ⟨c3, f3, l3⟩ := k3
  clear H1
  obtain ⟨b0, e0, hb0⟩ := isMeltR_two B l
  have Hb0 := Lib.hid hb0
  obtain ⟨n0, g0, hn0⟩ := mostR_two B
  have Hn0 := Lib.hid hn0
  clear hb0 hn0
  go_wp2_with fail
  refine (eq0_2 (v' := B.val) (by unfold ForgeV.val ForgeV.cells; rfl) (IsMelt_calls B A' c' l _ (HB0.out.below H2.out) (Hp0.out.below H2.out) (HM0.out.below H2.out))).mono ?_
  rintro e w2 ⟨rfl, hb⟩
  rw [Hb0.out]
  replace K3 := Lib.hid (K3.out.below hb)
  replace H2 := Lib.hid (below_then H2.out H2.out.size hb)
  clear hb c3 f3 l3
  obtain ⟨c3, f3, l3⟩ := K3.out
  go_wp2_with fail
  refine (eq0_2 (v' := B.val) (by unfold ForgeV.val ForgeV.cells; rfl) (refIsMelt_calls B A' c' l _ (HB0.out.below H2.out) (Hp0.out.below H2.out))).mono ?_
  rintro e w3 ⟨rfl, hb⟩
  rw [Hb0.out]
  replace K3 := Lib.hid (K3.out.below hb)
  replace H2 := Lib.hid (below_then H2.out H2.out.size hb)
  clear hb c3 f3 l3
  obtain ⟨c3, f3, l3⟩ := K3.out
  generalize hgx : (bif goodF B then (0 : Int) else 20) = gx at *
  have Hgx := Lib.hid hgx
  clear hgx
  have hbb : (b0 != b0) = false := by simp
  have hee : (e0 != e0) = false := by simp
  have hgg : (gx != gx) = false := by simp
  go_upto_region 3 with (fail)
  refine region_plain (S := fun w' => Below w3.heap.size w3 w') 15 (by kernel_rfl) ?_ (fun hHeld => ?_)
  · exact (Below.refl _ _).drew
  first | (refine anyT_take 0 (some 27) (v := ?_) rfl rfl (by kernel_rfl) (by kernel_rfl) (by kernel_rfl) (by kernel_rfl) (fun _ _ _ h => h) (Or.inl ⟨by rfl, ?_⟩) hHeld ?_; rotate_left; focus (intro wq hSw; obtain ⟨hcq, hfq⟩ := bcell hSw; go_simp; (try with_reducible rfl); done))
  (try simp only [Act.put, List.setIfInBounds_toArray, List.set_cons_zero, List.set_cons_succ])
  first | (refine anyT_take 1 (some 28) (v := ?_) rfl rfl (by kernel_rfl) (by kernel_rfl) (by kernel_rfl) (by kernel_rfl) (fun _ _ _ h => h) (Or.inl ⟨by rfl, ?_⟩) hHeld ?_; rotate_left; focus (intro wq hSw; obtain ⟨hcq, hfq⟩ := bcell hSw; go_simp; (try with_reducible rfl); done))
  (try simp only [Act.put, List.setIfInBounds_toArray, List.set_cons_zero, List.set_cons_succ])
  first | (refine anyT_take 2 (some 29) (v := ?_) rfl rfl (by kernel_rfl) (by kernel_rfl) (by kernel_rfl) (by kernel_rfl) (fun _ _ _ h => h) (Or.inl ⟨by rfl, ?_⟩) hHeld ?_; rotate_left; focus (intro wq hSw; obtain ⟨hcq, hfq⟩ := bcell hSw; go_simp; (try with_reducible rfl); done))
  (try simp only [Act.put, List.setIfInBounds_toArray, List.set_cons_zero, List.set_cons_succ])
  first | (refine anyT_take 3 (some 30) (v := ?_) rfl rfl (by kernel_rfl) (by kernel_rfl) (by kernel_rfl) (by kernel_rfl) (fun _ _ _ h => h) (Or.inl ⟨by rfl, ?_⟩) hHeld ?_; rotate_left; focus (intro wq hSw; obtain ⟨hcq, hfq⟩ := bcell hSw; go_simp; (try with_reducible rfl); done))
  (try simp only [Act.put, List.setIfInBounds_toArray, List.set_cons_zero, List.set_cons_succ])
  first | (refine anyT_take 4 (some 31) rfl rfl (by kernel_rfl) (by kernel_rfl) (by kernel_rfl) (by kernel_rfl) (fun _ _ _ h => h) (Or.inr ⟨by rfl, rfl⟩) hHeld ?_) | (refine anyT_take 4 (some 31) (v := ?_) rfl rfl (by kernel_rfl) (by kernel_rfl) (by kernel_rfl) (by kernel_rfl) (fun _ _ _ h => h) (Or.inl ⟨by rfl, ?_⟩) hHeld ?_; rotate_left; focus (intro wq hSw; obtain ⟨hcq, hfq⟩ := bcell hSw; go_simp; (try with_reducible rfl); done))
  (try simp only [Act.put, List.setIfInBounds_toArray, List.set_cons_zero, List.set_cons_succ])
  first | (refine anyT_take 5 (some 32) rfl rfl (by kernel_rfl) (by kernel_rfl) (by kernel_rfl) (by kernel_rfl) (fun _ _ _ h => h) (Or.inr ⟨by rfl, rfl⟩) hHeld ?_) | (refine anyT_take 5 (some 32) (v := ?_) rfl rfl (by kernel_rfl) (by kernel_rfl) (by kernel_rfl) (by kernel_rfl) (fun _ _ _ h => h) (Or.inl ⟨by rfl, ?_⟩) hHeld ?_; rotate_left; focus (intro wq hSw; obtain ⟨hcq, hfq⟩ := bcell hSw; go_simp; (try with_reducible rfl); done))
  (try simp only [Act.put, List.setIfInBounds_toArray, List.set_cons_zero, List.set_cons_succ])
  first | (refine anyT_take 6 (some 33) rfl rfl (by kernel_rfl) (by kernel_rfl) (by kernel_rfl) (by kernel_rfl) (fun _ _ _ h => h) (Or.inr ⟨by rfl, rfl⟩) hHeld ?_) | (refine anyT_take 6 (some 33) (v := ?_) rfl rfl (by kernel_rfl) (by kernel_rfl) (by kernel_rfl) (by kernel_rfl) (fun _ _ _ h => h) (Or.inl ⟨by rfl, ?_⟩) hHeld ?_; rotate_left; focus (intro wq hSw; obtain ⟨hcq, hfq⟩ := bcell hSw; go_simp; (try with_reducible rfl); done))
  (try simp only [Act.put, List.setIfInBounds_toArray, List.set_cons_zero, List.set_cons_succ])
  first | (refine anyT_take 7 (some 34) (v := ?_) rfl rfl (by kernel_rfl) (by kernel_rfl) (by kernel_rfl) (by kernel_rfl) (fun _ _ _ h => h) (Or.inl ⟨by rfl, ?_⟩) hHeld ?_; rotate_left; focus (intro wq hSw; obtain ⟨hcq, hfq⟩ := bcell hSw; go_simp; (try with_reducible rfl); done))
  (try simp only [Act.put, List.setIfInBounds_toArray, List.set_cons_zero, List.set_cons_succ])
  first | (refine anyT_take 8 (some 35) (v := ?_) rfl rfl (by kernel_rfl) (by kernel_rfl) (by kernel_rfl) (by kernel_rfl) (fun _ _ _ h => h) (Or.inl ⟨by rfl, ?_⟩) hHeld ?_; rotate_left; focus (intro wq hSw; obtain ⟨hcq, hfq⟩ := bcell hSw; go_simp; (try with_reducible rfl); done))
  (try simp only [Act.put, List.setIfInBounds_toArray, List.set_cons_zero, List.set_cons_succ])
  first | (refine anyT_take 9 (some 36) rfl rfl (by kernel_rfl) (by kernel_rfl) (by kernel_rfl) (by kernel_rfl) (fun _ _ _ h => h) (Or.inr ⟨by rfl, rfl⟩) hHeld ?_) | (refine anyT_take 9 (some 36) (v := ?_) rfl rfl (by kernel_rfl) (by kernel_rfl) (by kernel_rfl) (by kernel_rfl) (fun _ _ _ h => h) (Or.inl ⟨by rfl, ?_⟩) hHeld ?_; rotate_left; focus (intro wq hSw; obtain ⟨hcq, hfq⟩ := bcell hSw; go_simp; (try with_reducible rfl); done))
  (try simp only [Act.put, List.setIfInBounds_toArray, List.set_cons_zero, List.set_cons_succ])
  first | (refine anyT_take 11 (some 38) rfl rfl (by kernel_rfl) (by kernel_rfl) (by kernel_rfl) (by kernel_rfl) (fun _ _ _ h => h) (Or.inr ⟨by rfl, rfl⟩) hHeld ?_) | (refine anyT_take 11 (some 38) (v := ?_) rfl rfl (by kernel_rfl) (by kernel_rfl) (by kernel_rfl) (by kernel_rfl) (fun _ _ _ h => h) (Or.inl ⟨by rfl, ?_⟩) hHeld ?_; rotate_left; focus (intro wq hSw; obtain ⟨hcq, hfq⟩ := bcell hSw; go_simp; (try with_reducible rfl); done))
  (try simp only [Act.put, List.setIfInBounds_toArray, List.set_cons_zero, List.set_cons_succ])
  refine anyT_one 10 (by kernel_rfl) rfl (fun K hK => ?_)
  go_simp
  refine (eq0_1 (v' := B.val) (by unfold ForgeV.val ForgeV.cells; rfl) (Check_calls B _ (HB0.out.below (below_then H2.out H2.out.size hHeld)))).mono ?_; rintro e w4 ⟨rfl, hb4⟩; rw [Hgx.out]
  refine hK.out _ _ ?_ (fun hHeld => ?_)
  · exact below_then hHeld hHeld.size hb4
  clear hK K
  (try simp only [Act.put, List.setIfInBounds_toArray, List.set_cons_zero, List.set_cons_succ])
  refine anyT_one 12 (by kernel_rfl) rfl (fun K hK => ?_)
  go_simp
  refine (eq0_1 (v' := B.val) (by unfold ForgeV.val ForgeV.cells; rfl) (refCheck_calls B _ (HB0.out.below (below_then H2.out H2.out.size hHeld)))).mono ?_; rintro e w5 ⟨rfl, hb5⟩; rw [Hgx.out]
  refine hK.out _ _ ?_ (fun hHeld => ?_)
  · exact below_then hHeld hHeld.size hb5
  clear hK K
  (try simp only [Act.put, List.setIfInBounds_toArray, List.set_cons_zero, List.set_cons_succ])
  first | (refine anyT_take 13 (some 40) rfl rfl (by kernel_rfl) (by kernel_rfl) (by kernel_rfl) (by kernel_rfl) (fun _ _ _ h => h) (Or.inr ⟨by rfl, rfl⟩) hHeld ?_) | (refine anyT_take 13 (some 40) (v := ?_) rfl rfl (by kernel_rfl) (by kernel_rfl) (by kernel_rfl) (by kernel_rfl) (fun _ _ _ h => h) (Or.inl ⟨by rfl, ?_⟩) hHeld ?_; rotate_left; focus (intro wq hSw; obtain ⟨hcq, hfq⟩ := bcell hSw; go_simp; (try with_reducible rfl); done))
  (try simp only [Act.put, List.setIfInBounds_toArray, List.set_cons_zero, List.set_cons_succ])
  first | (refine anyT_take 14 (some 41) (v := ?_) rfl rfl (by kernel_rfl) (by kernel_rfl) (by kernel_rfl) (by kernel_rfl) (fun _ _ _ h => h) (Or.inl ⟨by rfl, ?_⟩) hHeld ?_; rotate_left; focus (intro wq hSw; obtain ⟨hcq, hfq⟩ := bcell hSw; go_simp; (try with_reducible rfl); done))
  (try simp only [Act.put, List.setIfInBounds_toArray, List.set_cons_zero, List.set_cons_succ])
  refine anyT_done (by kernel_rfl) ?_ _
  replace K3 := Lib.hid (K3.out.below hHeld)
  replace H2 := Lib.hid (below_then H2.out H2.out.size hHeld)
  clear hHeld hb4 hb5 c3 f3 l3
  obtain ⟨c3, f3, l3⟩ := K3.out
  go_wp2_with fail
  refine (eq0_2 (v' := B.val) (by unfold ForgeV.val ForgeV.cells; rfl) (Cast_calls B many _ (HB0.out.below H2.out) (HM0.out.below H2.out))).mono ?_
  rintro e w6 ⟨hc, hb⟩
  obtain ⟨A6, c6, rfl, hi6⟩ := castR_all hc
  replace K3 := Lib.hid (K3.out.below hb)
  replace H2 := Lib.hid (below_then H2.out H2.out.size hb)
  clear hc hb c3 f3 l3
  obtain ⟨c3, f3, l3⟩ := K3.out
  go_wp2_with fail
  refine (eq0_2 (v' := B.val) (by unfold ForgeV.val ForgeV.cells; rfl) (refCast_calls B many _ (HB0.out.below H2.out))).mono ?_
  rintro e w7 ⟨hc, hb⟩
  obtain ⟨A7, c7, rfl, hi7⟩ := refCastR_all hc
  replace K3 := Lib.hid (K3.out.below hb)
  replace H2 := Lib.hid (below_then H2.out H2.out.size hb)
  have Hi6 := Lib.hid (hi6.below hb)
  have Hi7 := Lib.hid hi7
  clear hc hb c3 f3 l3 hi6 hi7
  generalize castL B many = q at *
  generalize castE B many = f0 at *
  have hff : (f0 != f0) = false := by simp
  have hnn : (n0 == n0) = true := by simp
  have hge : (g0 == g0) = true := by simp
  go_wp2_with fail
  refine (Equal_calls A6 c6 q A7 c7 q _ Hi6.out Hi7.out).mono ?_
  rintro e w8 ⟨rfl, hb⟩
  rw [eqL_self]
  replace K3 := Lib.hid (K3.out.below hb)
  replace H2 := Lib.hid (below_then H2.out H2.out.size hb)
  clear hb
  obtain ⟨c3, f3, l3⟩ := K3.out
  go_wp2_with fail
  refine (eq0_1 (v' := B.val) (by unfold ForgeV.val ForgeV.cells; rfl) (Most_calls B _ (HB0.out.below H2.out) (HM0.out.below H2.out))).mono ?_
  rintro e w9 ⟨rfl, hb⟩
  rw [Hn0.out]
  replace K3 := Lib.hid (K3.out.below hb)
  replace H2 := Lib.hid (below_then H2.out H2.out.size hb)
  clear hb c3 f3 l3
  obtain ⟨c3, f3, l3⟩ := K3.out
  go_wp2_with fail
  refine (eq0_1 (v' := B.val) (by unfold ForgeV.val ForgeV.cells; rfl) (refMost_calls B _ (HB0.out.below H2.out))).mono ?_
  rintro e w10 ⟨rfl, hb⟩
  rw [Hn0.out]
  replace H2 := Lib.hid (below_then H2.out H2.out.size hb)
  clear hb c3 f3 l3
  go_wp2_with fail
  refine (works_calls _ (HM0.out.below H2.out)).mono ?_
  rintro e w11 ⟨rfl, hb⟩
  go_wp2
  go_ret
  exact ⟨rfl, below_then H2.out H2.out.size hb⟩
end
end Go.Proofs.YtgfbfbfajnfbjaaDoor
