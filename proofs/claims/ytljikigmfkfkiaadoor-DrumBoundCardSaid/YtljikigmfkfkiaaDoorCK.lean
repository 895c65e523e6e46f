import Derived.Test.YtljikigmfkfkiaaDoorCJ
import Derived.Test.YtljikigmfkfkiaaDoorAX
import Derived.Test.YtljikigmfkfkiaaDoorBC
namespace Go.Proofs.YtljikigmfkfkiaaDoor
open Go.RowKit Go.Shelf
attribute [local go_sem] Oper.semAt_some
set_option linter.unusedSimpArgs false
set_option linter.unusedVariables false

theorem Plan_held_some {B : BookV} (g : B.Good) {j : Nat} (hj : j < B.players.length) {lo hi : Int} (hk : 0 ≤ lo ∧ lo ≤ hi ∧ hi ≤ 500) {gg c : Nat} {e : Ending} {w : World} (h : PlanR (bookHeld B gg c j lo hi) e w) (hs : hasPlan B j hi = true) : ∃ A n c, e = .returned (.tuple #[.slice A n c, .int .i64 0]) :=
  PlanR_some h (bookHeld_good g hj hk gg c) fun e => (held_plans g hj hk gg c).2 hs ((bestOf_none _).1 e)
theorem Plan_held_none {B : BookV} (g : B.Good) {j : Nat} (hj : j < B.players.length) {lo hi : Int} (hk : 0 ≤ lo ∧ lo ≤ hi ∧ hi ≤ 500) {gg c : Nat} {e : Ending} {w : World} (h : PlanR (bookHeld B gg c j lo hi) e w) (hs : hasPlan B j hi = false) : e = .returned (.tuple #[.slice none 0 0, .int .i64 4]) :=
  PlanR_none h (bookHeld_good g hj hk gg c) ((bestOf_none _).2 (by
    by_cases h : allPlans (bookHeld B gg c j lo hi) = []
    · exact h
    · have := (held_plans g hj hk gg c).1 h; rw [hs] at this; cases this))
/-- what Plan returns of the book itself: an error, or none -/
theorem Plan_self {B : BookV} (g : B.Good) {j : Nat} (hj : j < B.players.length) {e : Ending} {w : World} (h : PlanR B e w) : ∃ v er, e = .returned (.tuple #[v, .int .i64 er]) ∧ ((er = 0 ∧ hasPlan B j (gp B.players j).hi = true) ∨ (er = 4 ∧ hasPlan B j (gp B.players j).hi = false)) := by
  cases hh : hasPlan B j (gp B.players j).hi with
  | true =>
    obtain ⟨A, n, c, rfl⟩ := PlanR_some h g fun e => (self_plans g hj).2 hh ((bestOf_none _).1 e)
    exact ⟨_, _, rfl, .inl ⟨rfl, rfl⟩⟩
  | false =>
    have := PlanR_none h g ((bestOf_none _).2 (by
      by_cases h : allPlans B = []
      · exact h
      · have := (self_plans g hj).1 h; rw [hh] at this; cases this))
    exact ⟨_, _, this, .inr ⟨rfl, rfl⟩⟩
set_option maxRecDepth 100000 in
set_option maxHeartbeats 8000000 in
theorem DrumBound_calls (B : BookV) (player by_ : Int) (w : World) (hB : B.Reads w) (hM : MarksAt w) :
    Calls Tryd.prog 11 #[B.val, .int .i64 player, .int .i64 by_] w fun e w' => e = .returned (.bool true) ∧ Below w.heap.size w w' := by
  have HB := Lib.hid hB
  have HM := Lib.hid hM
  have H : Below w.heap.size w (w.alloc (.cells B.cells 27)) := (Below.refl _ _).alloc (Nat.le_refl _) _
  have k2 := BoxAt.new w B.cells 27
  clear hB hM
  unfold BookV.val BookV.cells
  go_enter Tryd.func11, Tryd.ntmps11
  go_upto_region 1 with (fail)
  unfold BookV.cells at H k2
  generalize w.alloc _ = w0 at *
  have K2 := Lib.hid k2
  obtain ⟨c2, f2, l2⟩ := k2
  go_wp2_with fail
  refine (eq0_1 (v' := B.val) (by unfold BookV.val BookV.cells; rfl) (sound_calls B _ (HB.out.below H))).mono ?_
  rintro e w1 ⟨rfl, hb⟩
  replace H := below_then H H.size hb
  replace K2 := Lib.hid (K2.out.below hb)
  clear hb c2 f2 l2
  cases hg : goodB B with
  | false =>
    have HH := Lib.hid H
    clear H hg
    go_wp2_with fail
    refine (works_calls _ (HM.out.below HH.out)).mono ?_
    rintro e w2 ⟨rfl, hb⟩
    have hfin := below_then HH.out HH.out.size hb
    clear hb
    go_wp2
    go_ret
    exact ⟨rfl, hfin⟩
  | true =>
    have g := Lib.hid ((goodB_iff B).1 hg)
    clear hg
    have hm := g.out.many
    obtain ⟨c2, f2, l2⟩ := K2.out
    go_wp2_with fail
    refine (Turn_calls player B.players.length _ (by omega)).mono ?_
    rintro e w2 ⟨rfl, rfl⟩
    have ht := turnZ_bd (n := player) (b := B.players.length) (by omega)
    obtain ⟨j, hj⟩ := Int.eq_ofNat_of_zero_le ht.1
    rw [hj]
    have hjl : j < B.players.length := by omega
    have Hjl := Lib.hid hjl
    clear ht hj
    go_wp2_with fail
    refine (eq0_2 (v' := B.val) (by unfold BookV.val BookV.cells; rfl) (Bound_calls B (j : Int) _ (HB.out.below H) (HM.out.below H))).mono ?_
    rintro e w3 ⟨rfl, hb⟩
    have H3 := Lib.hid (below_then H H.size hb)
    replace K2 := Lib.hid (K2.out.below hb)
    clear hb c2 f2 l2 H
    have hl5 : 0 < B.players.length ∧ B.players.length ≤ 5 := by omega
    cases h0 : hasPlan B j 0 with
    | false =>
      obtain ⟨hbR, hno⟩ := bound_none g.out hjl h0
      rw [hbR]
      unfold two
      have Hno := Lib.hid h0
      clear h0 hbR hno
      obtain ⟨c2, f2, l2⟩ := K2.out
      go_upto_region 6 with (fail)
      refine region_plain (S := fun w' => Below w3.heap.size w3 w') 10 (by kernel_rfl) ?_ (fun hHeld => ?_)
      · exact (Below.refl _ _).drew
      first | (refine anyT_take 0 (some 37) (v := ?_) rfl rfl (by kernel_rfl) (by kernel_rfl) (by kernel_rfl) (by kernel_rfl) (fun _ _ _ h => h) (Or.inl ⟨by rfl, ?_⟩) hHeld ?_; rotate_left; focus (intro wq hSw; obtain ⟨hcq, hfq⟩ := bcell hSw; go_simp; (try with_reducible rfl); done))
      (try simp only [Act.put, List.setIfInBounds_toArray, List.set_cons_zero, List.set_cons_succ])
      first | (refine anyT_take 1 (some 38) (v := ?_) rfl rfl (by kernel_rfl) (by kernel_rfl) (by kernel_rfl) (by kernel_rfl) (fun _ _ _ h => h) (Or.inl ⟨by rfl, ?_⟩) hHeld ?_; rotate_left; focus (intro wq hSw; obtain ⟨hcq, hfq⟩ := bcell hSw; go_simp; (try with_reducible rfl); done))
      (try simp only [Act.put, List.setIfInBounds_toArray, List.set_cons_zero, List.set_cons_succ])
      refine anyT_one 2 (by kernel_rfl) rfl (fun K hK => ?_)
      go_simp
      refine (Band_calls _ _ _).mono ?_; rintro e w4 ⟨rfl, hb4⟩
      refine hK.out _ _ ?_ (fun hHeld => ?_)
      · exact below_then hHeld hHeld.size hb4
      clear hK K
      (try simp only [Act.put, List.setIfInBounds_toArray, List.set_cons_zero, List.set_cons_succ])
      refine anyT_one 3 (by kernel_rfl) rfl (fun K hK => ?_)
      have hbq : Below w.heap.size w _ := below_then H3.out H3.out.size hHeld
      go_simp
      refine (eq0_3 (v' := B.val) (by unfold BookV.val BookV.cells; rfl) (held_calls B hl5 j Hjl.out 0 0 _ (HB.out.below hbq))).mono ?_; clear hbq; rintro e w5 ⟨⟨gg, cc, rfl, hrd⟩, hb5⟩
      refine hK.out _ _ ?_ (fun hHeld => ?_)
      · exact below_then hHeld hHeld.size hb5
      clear hK K
      (try simp only [Act.put, List.setIfInBounds_toArray, List.set_cons_zero, List.set_cons_succ])
      refine anyT_one 4 (by kernel_rfl) rfl (fun K hK => ?_)
      have hbq : Below w.heap.size w _ := below_then H3.out H3.out.size hHeld
      go_simp
      refine (Plan_calls _ _ hrd (HM.out.below hbq)).mono ?_; clear hbq; rintro e w6 ⟨hR, hb6⟩; obtain rfl := Plan_held_none g.out Hjl.out (by omega) hR Hno.out
      refine hK.out _ _ ?_ (fun hHeld => ?_)
      · exact below_then hHeld hHeld.size hb6
      clear hK K
      (try simp only [Act.put, List.setIfInBounds_toArray, List.set_cons_zero, List.set_cons_succ])
      first | (refine anyT_take 5 (some 36) (v := ?_) rfl rfl (by kernel_rfl) (by kernel_rfl) (by kernel_rfl) (by kernel_rfl) (fun _ _ _ h => h) (Or.inl ⟨by rfl, ?_⟩) hHeld ?_; rotate_left; focus (intro wq hSw; obtain ⟨hcq, hfq⟩ := bcell hSw; go_simp; (try with_reducible rfl); done))
      (try simp only [Act.put, List.setIfInBounds_toArray, List.set_cons_zero, List.set_cons_succ])
      first | (refine anyT_take 6 (some 42) (v := ?_) rfl rfl (by kernel_rfl) (by kernel_rfl) (by kernel_rfl) (by kernel_rfl) (fun _ _ _ h => h) (Or.inl ⟨by rfl, ?_⟩) hHeld ?_; rotate_left; focus (intro wq hSw; obtain ⟨hcq, hfq⟩ := bcell hSw; go_simp; (try with_reducible rfl); done))
      (try simp only [Act.put, List.setIfInBounds_toArray, List.set_cons_zero, List.set_cons_succ])
      first | (refine anyT_take 7 (some 43) (v := ?_) rfl rfl (by kernel_rfl) (by kernel_rfl) (by kernel_rfl) (by kernel_rfl) (fun _ _ _ h => h) (Or.inl ⟨by rfl, ?_⟩) hHeld ?_; rotate_left; focus (intro wq hSw; obtain ⟨hcq, hfq⟩ := bcell hSw; go_simp; (try with_reducible rfl); done))
      (try simp only [Act.put, List.setIfInBounds_toArray, List.set_cons_zero, List.set_cons_succ])
      first | (refine anyT_take 8 (some 10) (v := ?_) rfl rfl (by kernel_rfl) (by kernel_rfl) (by kernel_rfl) (by kernel_rfl) (fun _ _ _ h => h) (Or.inl ⟨by rfl, ?_⟩) hHeld ?_; rotate_left; focus (intro wq hSw; obtain ⟨hcq, hfq⟩ := bcell hSw; go_simp; (try with_reducible rfl); done))
      (try simp only [Act.put, List.setIfInBounds_toArray, List.set_cons_zero, List.set_cons_succ])
      first | (refine anyT_take 9 (some 11) (v := ?_) rfl rfl (by kernel_rfl) (by kernel_rfl) (by kernel_rfl) (by kernel_rfl) (fun _ _ _ h => h) (Or.inl ⟨by rfl, ?_⟩) hHeld ?_; rotate_left; focus (intro wq hSw; obtain ⟨hcq, hfq⟩ := bcell hSw; go_simp; (try with_reducible rfl); done))
      (try simp only [Act.put, List.setIfInBounds_toArray, List.set_cons_zero, List.set_cons_succ])
      refine anyT_done (by kernel_rfl) ?_ _
      have H4 := Lib.hid (below_then H3.out H3.out.size hHeld)
      clear hHeld c2 f2 l2
      go_wp2_with fail
      refine (works_calls _ (HM.out.below H4.out)).mono ?_
      rintro e w7 ⟨rfl, hb⟩
      have hfin := below_then H4.out H4.out.size hb
      clear hb
      go_wp2
      go_ret
      exact ⟨rfl, hfin⟩
    | true =>
      obtain ⟨n, hn0, hn5, hbR, hall⟩ := bound_some g.out hjl h0
      rw [hbR]
      unfold two
      have Hall := Lib.hid hall
      clear h0 hbR hall
      go_wp2_with fail
      refine (Sits_calls _ _ _ _).mono ?_
      rintro e w4 ⟨rfl, rfl⟩
      rw [inB_iff.2 ⟨hn0, hn5⟩]
      have hwn : IntKind.i64.wrap (n + 1) = n + 1 := wrap_in (by omega) (by omega)
      go_wp2_with fail
      refine (Turn_calls by_ (n + 1) _ (by omega)).mono ?_
      rintro e w4 ⟨rfl, rfl⟩
      have ht := turnZ_bd (n := by_) (b := n + 1) (by omega)
      generalize turnZ by_ (n + 1) = k at *
      have hk0 := ht.1
      have hkn : k ≤ n := by omega
      have Hs1 : Hid (hasPlan B j n = true) := (Hall.out n hn0 hn5).2 (Int.le_refl _)
      have Hs2 : Hid (hasPlan B j k = true) := (Hall.out k hk0 (by omega)).2 hkn
      clear ht
      go_upto_region 11 with (fail)
      obtain ⟨c2, f2, l2⟩ := K2.out
      refine region_plain (S := fun w' => Below w3.heap.size w3 w') 12 (by kernel_rfl) ?_ (fun hHeld => ?_)
      · exact (Below.refl _ _).drew
      first | (refine anyT_take 0 (some 66) (v := ?_) rfl rfl (by kernel_rfl) (by kernel_rfl) (by kernel_rfl) (by kernel_rfl) (fun _ _ _ h => h) (Or.inl ⟨by rfl, ?_⟩) hHeld ?_; rotate_left; focus (intro wq hSw; obtain ⟨hcq, hfq⟩ := bcell hSw; go_simp; (try with_reducible rfl); done))
      (try simp only [Act.put, List.setIfInBounds_toArray, List.set_cons_zero, List.set_cons_succ])
      first | (refine anyT_take 1 (some 67) (v := ?_) rfl rfl (by kernel_rfl) (by kernel_rfl) (by kernel_rfl) (by kernel_rfl) (fun _ _ _ h => h) (Or.inl ⟨by rfl, ?_⟩) hHeld ?_; rotate_left; focus (intro wq hSw; obtain ⟨hcq, hfq⟩ := bcell hSw; go_simp; (try with_reducible rfl); done))
      (try simp only [Act.put, List.setIfInBounds_toArray, List.set_cons_zero, List.set_cons_succ])
      first | (refine anyT_take 2 (some 68) (v := ?_) rfl rfl (by kernel_rfl) (by kernel_rfl) (by kernel_rfl) (by kernel_rfl) (fun _ _ _ h => h) (Or.inl ⟨by rfl, ?_⟩) hHeld ?_; rotate_left; focus (intro wq hSw; obtain ⟨hcq, hfq⟩ := bcell hSw; go_simp; (try with_reducible rfl); done))
      (try simp only [Act.put, List.setIfInBounds_toArray, List.set_cons_zero, List.set_cons_succ])
      first | (refine anyT_take 3 (some 69) (v := ?_) rfl rfl (by kernel_rfl) (by kernel_rfl) (by kernel_rfl) (by kernel_rfl) (fun _ _ _ h => h) (Or.inl ⟨by rfl, ?_⟩) hHeld ?_; rotate_left; focus (intro wq hSw; obtain ⟨hcq, hfq⟩ := bcell hSw; go_simp; (try with_reducible rfl); done))
      (try simp only [Act.put, List.setIfInBounds_toArray, List.set_cons_zero, List.set_cons_succ])
      refine anyT_one 4 (by kernel_rfl) rfl (fun K hK => ?_)
      go_simp
      refine (Band_calls _ _ _).mono ?_; rintro e w4 ⟨rfl, hb4⟩
      refine hK.out _ _ ?_ (fun hHeld => ?_)
      · exact below_then hHeld hHeld.size hb4
      clear hK K
      (try simp only [Act.put, List.setIfInBounds_toArray, List.set_cons_zero, List.set_cons_succ])
      refine anyT_one 5 (by kernel_rfl) rfl (fun K hK => ?_)
      have hbq : Below w.heap.size w _ := below_then H3.out H3.out.size hHeld
      go_simp
      refine (eq0_3 (v' := B.val) (by unfold BookV.val BookV.cells; rfl) (held_calls B hl5 j Hjl.out k n _ (HB.out.below hbq))).mono ?_; clear hbq; rintro e w5 ⟨⟨gg, cc, rfl, hrd⟩, hb5⟩
      refine hK.out _ _ ?_ (fun hHeld => ?_)
      · exact below_then hHeld hHeld.size hb5
      clear hK K
      (try simp only [Act.put, List.setIfInBounds_toArray, List.set_cons_zero, List.set_cons_succ])
      refine anyT_one 6 (by kernel_rfl) rfl (fun K hK => ?_)
      have hbq : Below w.heap.size w _ := below_then H3.out H3.out.size hHeld
      go_simp
      refine (Plan_calls _ _ hrd (HM.out.below hbq)).mono ?_; clear hbq; rintro e w6 ⟨hR, hb6⟩; obtain ⟨Ar, nr, cr, rfl⟩ := Plan_held_some g.out Hjl.out (by omega) hR Hs1.out
      refine hK.out _ _ ?_ (fun hHeld => ?_)
      · exact below_then hHeld hHeld.size hb6
      clear hK K
      (try simp only [Act.put, List.setIfInBounds_toArray, List.set_cons_zero, List.set_cons_succ])
      first | (refine anyT_take 7 (some 65) (v := ?_) rfl rfl (by kernel_rfl) (by kernel_rfl) (by kernel_rfl) (by kernel_rfl) (fun _ _ _ h => h) (Or.inl ⟨by rfl, ?_⟩) hHeld ?_; rotate_left; focus (intro wq hSw; obtain ⟨hcq, hfq⟩ := bcell hSw; go_simp; (try with_reducible rfl); done))
      (try simp only [Act.put, List.setIfInBounds_toArray, List.set_cons_zero, List.set_cons_succ])
      first | (refine anyT_take 8 (some 73) (v := ?_) rfl rfl (by kernel_rfl) (by kernel_rfl) (by kernel_rfl) (by kernel_rfl) (fun _ _ _ h => h) (Or.inl ⟨by rfl, ?_⟩) hHeld ?_; rotate_left; focus (intro wq hSw; obtain ⟨hcq, hfq⟩ := bcell hSw; go_simp; (try with_reducible rfl); done))
      (try simp only [Act.put, List.setIfInBounds_toArray, List.set_cons_zero, List.set_cons_succ])
      first | (refine anyT_take 9 (some 74) (v := ?_) rfl rfl (by kernel_rfl) (by kernel_rfl) (by kernel_rfl) (by kernel_rfl) (fun _ _ _ h => h) (Or.inl ⟨by rfl, ?_⟩) hHeld ?_; rotate_left; focus (intro wq hSw; obtain ⟨hcq, hfq⟩ := bcell hSw; go_simp; (try with_reducible rfl); done))
      (try simp only [Act.put, List.setIfInBounds_toArray, List.set_cons_zero, List.set_cons_succ])
      first | (refine anyT_take 10 (some 13) (v := ?_) rfl rfl (by kernel_rfl) (by kernel_rfl) (by kernel_rfl) (by kernel_rfl) (fun _ _ _ h => h) (Or.inl ⟨by rfl, ?_⟩) hHeld ?_; rotate_left; focus (intro wq hSw; obtain ⟨hcq, hfq⟩ := bcell hSw; go_simp; (try with_reducible rfl); done))
      (try simp only [Act.put, List.setIfInBounds_toArray, List.set_cons_zero, List.set_cons_succ])
      first | (refine anyT_take 11 (some 14) (v := ?_) rfl rfl (by kernel_rfl) (by kernel_rfl) (by kernel_rfl) (by kernel_rfl) (fun _ _ _ h => h) (Or.inl ⟨by rfl, ?_⟩) hHeld ?_; rotate_left; focus (intro wq hSw; obtain ⟨hcq, hfq⟩ := bcell hSw; go_simp; (try with_reducible rfl); done))
      (try simp only [Act.put, List.setIfInBounds_toArray, List.set_cons_zero, List.set_cons_succ])
      refine anyT_done (by kernel_rfl) ?_ _
      have H4 := Lib.hid (below_then H3.out H3.out.size hHeld)
      replace K2 := Lib.hid (K2.out.below hHeld)
      clear c2 f2 l2 hHeld
      go_upto_region 12 with (fail)
      obtain ⟨c2, f2, l2⟩ := K2.out
      refine region_plain (S := fun w' => Below w6.heap.size w6 w') 12 (by kernel_rfl) ?_ (fun hHeld => ?_)
      · exact (Below.refl _ _).drew
      first | (refine anyT_take 0 (some 76) (v := ?_) rfl rfl (by kernel_rfl) (by kernel_rfl) (by kernel_rfl) (by kernel_rfl) (fun _ _ _ h => h) (Or.inl ⟨by rfl, ?_⟩) hHeld ?_; rotate_left; focus (intro wq hSw; obtain ⟨hcq, hfq⟩ := bcell hSw; go_simp; (try with_reducible rfl); done))
      (try simp only [Act.put, List.setIfInBounds_toArray, List.set_cons_zero, List.set_cons_succ])
      first | (refine anyT_take 1 (some 77) (v := ?_) rfl rfl (by kernel_rfl) (by kernel_rfl) (by kernel_rfl) (by kernel_rfl) (fun _ _ _ h => h) (Or.inl ⟨by rfl, ?_⟩) hHeld ?_; rotate_left; focus (intro wq hSw; obtain ⟨hcq, hfq⟩ := bcell hSw; go_simp; (try with_reducible rfl); done))
      (try simp only [Act.put, List.setIfInBounds_toArray, List.set_cons_zero, List.set_cons_succ])
      first | (refine anyT_take 2 (some 78) (v := ?_) rfl rfl (by kernel_rfl) (by kernel_rfl) (by kernel_rfl) (by kernel_rfl) (fun _ _ _ h => h) (Or.inl ⟨by rfl, ?_⟩) hHeld ?_; rotate_left; focus (intro wq hSw; obtain ⟨hcq, hfq⟩ := bcell hSw; go_simp; (try with_reducible rfl); done))
      (try simp only [Act.put, List.setIfInBounds_toArray, List.set_cons_zero, List.set_cons_succ])
      first | (refine anyT_take 3 (some 79) (v := ?_) rfl rfl (by kernel_rfl) (by kernel_rfl) (by kernel_rfl) (by kernel_rfl) (fun _ _ _ h => h) (Or.inl ⟨by rfl, ?_⟩) hHeld ?_; rotate_left; focus (intro wq hSw; obtain ⟨hcq, hfq⟩ := bcell hSw; go_simp; (try with_reducible rfl); done))
      (try simp only [Act.put, List.setIfInBounds_toArray, List.set_cons_zero, List.set_cons_succ])
      refine anyT_one 4 (by kernel_rfl) rfl (fun K hK => ?_)
      go_simp
      refine (Band_calls _ _ _).mono ?_; rintro e w7 ⟨rfl, hb4⟩
      refine hK.out _ _ ?_ (fun hHeld => ?_)
      · exact below_then hHeld hHeld.size hb4
      clear hK K
      (try simp only [Act.put, List.setIfInBounds_toArray, List.set_cons_zero, List.set_cons_succ])
      refine anyT_one 5 (by kernel_rfl) rfl (fun K hK => ?_)
      have hbq : Below w.heap.size w _ := below_then H4.out H4.out.size hHeld
      go_simp
      refine (eq0_3 (v' := B.val) (by unfold BookV.val BookV.cells; rfl) (held_calls B hl5 j Hjl.out k k _ (HB.out.below hbq))).mono ?_; clear hbq; rintro e w8 ⟨⟨gg, cc, rfl, hrd⟩, hb5⟩
      refine hK.out _ _ ?_ (fun hHeld => ?_)
      · exact below_then hHeld hHeld.size hb5
      clear hK K
      (try simp only [Act.put, List.setIfInBounds_toArray, List.set_cons_zero, List.set_cons_succ])
      refine anyT_one 6 (by kernel_rfl) rfl (fun K hK => ?_)
      have hbq : Below w.heap.size w _ := below_then H4.out H4.out.size hHeld
      go_simp
      refine (Plan_calls _ _ hrd (HM.out.below hbq)).mono ?_; clear hbq; rintro e w9 ⟨hR, hb6⟩; obtain ⟨Ar, nr, cr, rfl⟩ := Plan_held_some g.out Hjl.out (by omega) hR Hs2.out
      refine hK.out _ _ ?_ (fun hHeld => ?_)
      · exact below_then hHeld hHeld.size hb6
      clear hK K
      (try simp only [Act.put, List.setIfInBounds_toArray, List.set_cons_zero, List.set_cons_succ])
      first | (refine anyT_take 7 (some 75) (v := ?_) rfl rfl (by kernel_rfl) (by kernel_rfl) (by kernel_rfl) (by kernel_rfl) (fun _ _ _ h => h) (Or.inl ⟨by rfl, ?_⟩) hHeld ?_; rotate_left; focus (intro wq hSw; obtain ⟨hcq, hfq⟩ := bcell hSw; go_simp; (try with_reducible rfl); done))
      (try simp only [Act.put, List.setIfInBounds_toArray, List.set_cons_zero, List.set_cons_succ])
      first | (refine anyT_take 8 (some 83) (v := ?_) rfl rfl (by kernel_rfl) (by kernel_rfl) (by kernel_rfl) (by kernel_rfl) (fun _ _ _ h => h) (Or.inl ⟨by rfl, ?_⟩) hHeld ?_; rotate_left; focus (intro wq hSw; obtain ⟨hcq, hfq⟩ := bcell hSw; go_simp; (try with_reducible rfl); done))
      (try simp only [Act.put, List.setIfInBounds_toArray, List.set_cons_zero, List.set_cons_succ])
      first | (refine anyT_take 9 (some 84) (v := ?_) rfl rfl (by kernel_rfl) (by kernel_rfl) (by kernel_rfl) (by kernel_rfl) (fun _ _ _ h => h) (Or.inl ⟨by rfl, ?_⟩) hHeld ?_; rotate_left; focus (intro wq hSw; obtain ⟨hcq, hfq⟩ := bcell hSw; go_simp; (try with_reducible rfl); done))
      (try simp only [Act.put, List.setIfInBounds_toArray, List.set_cons_zero, List.set_cons_succ])
      first | (refine anyT_take 10 (some 15) (v := ?_) rfl rfl (by kernel_rfl) (by kernel_rfl) (by kernel_rfl) (by kernel_rfl) (fun _ _ _ h => h) (Or.inl ⟨by rfl, ?_⟩) hHeld ?_; rotate_left; focus (intro wq hSw; obtain ⟨hcq, hfq⟩ := bcell hSw; go_simp; (try with_reducible rfl); done))
      (try simp only [Act.put, List.setIfInBounds_toArray, List.set_cons_zero, List.set_cons_succ])
      first | (refine anyT_take 11 (some 16) (v := ?_) rfl rfl (by kernel_rfl) (by kernel_rfl) (by kernel_rfl) (by kernel_rfl) (fun _ _ _ h => h) (Or.inl ⟨by rfl, ?_⟩) hHeld ?_; rotate_left; focus (intro wq hSw; obtain ⟨hcq, hfq⟩ := bcell hSw; go_simp; (try with_reducible rfl); done))
      (try simp only [Act.put, List.setIfInBounds_toArray, List.set_cons_zero, List.set_cons_succ])
      refine anyT_done (by kernel_rfl) ?_ _
      have H5 := Lib.hid (below_then H4.out H4.out.size hHeld)
      replace K2 := Lib.hid (K2.out.below hHeld)
      clear c2 f2 l2 hHeld
      obtain ⟨c2, f2, l2⟩ := K2.out
      have Hhi : Hid (hasPlan B j (gp B.players j).hi = true ↔ (gp B.players j).hi ≤ n) := Hall.out _ (by have := g.out.late j Hjl.out; omega) (g.out.late j Hjl.out).2.2
      go_wp2_with fail
      refine (eq0_1 (v' := B.val) (by unfold BookV.val BookV.cells; rfl) (Plan_calls B _ (HB.out.below H5.out) (HM.out.below H5.out))).mono ?_
      rintro e w10 ⟨hR, hb⟩
      obtain ⟨v, er, rfl, hcase⟩ := Plan_self g.out Hjl.out hR
      have H6 := Lib.hid (below_then H5.out H5.out.size hb)
      replace K2 := Lib.hid (K2.out.below hb)
      clear hb hR c2 f2 l2
      have hpl := (HB.out.below H6.out).2
      obtain ⟨bp, op, hpA, hcells⟩ := hpl.2.1.resolve_left (by intro h; rw [h] at hl5; simp at hl5)
      have hlen := hpl.1
      obtain ⟨_, hc1, _⟩ := hcells j Hjl.out
      have bl := World.block_lt_of_cell? _ _ hc1
      simp only at bl
      have hji : (j : Int) < B.players.length := by have := Hjl.out; omega
      have hcond : (er = 0 ∧ (gp B.players j).hi ≤ n) ∨ (er = 4 ∧ ¬ (gp B.players j).hi ≤ n) := by
        rcases hcase with ⟨h1, h2⟩ | ⟨h1, h2⟩
        · exact .inl ⟨h1, Hhi.out.1 h2⟩
        · exact .inr ⟨h1, fun h => by have := Hhi.out.2 h; rw [h2] at this; cases this⟩
      clear hpl hcells hcase
      generalize (gp B.players j).hi = hi at *
      go_upto_region 14 with (fail)
      go_cut [109] (fun s w11 => s = .bool false ∧ w10 = w11)
      case first =>
        obtain ⟨c2, f2, l2⟩ := K2.out
        rw [hpA] at c2
        rcases hcond with ⟨rfl, h⟩ | ⟨rfl, h⟩
        all_goals
          go_wp2
          go_meet
          first | exact ⟨rfl, rfl⟩ | exact ⟨by simp [h], rfl⟩
      case rest =>
        obtain ⟨rfl, rfl⟩ := hcut
        clear hc1 bl hcond hpA
        by_cases h5 : n = 500
        · have h5b : (n == 500) = true := by rw [beq_iff_eq]; exact h5
          go_wp2_with fail
          refine (works_calls _ (HM.out.below H6.out)).mono ?_
          rintro e w11 ⟨rfl, hb⟩
          have hfin := below_then H6.out H6.out.size hb
          clear hb
          go_wp2
          go_ret
          exact ⟨rfl, hfin⟩
        · have h5b : (n == 500) = false := by rw [beq_eq_false_iff_ne]; exact h5
          have Hs3 : Hid (hasPlan B j (n + 1) = false) := by
            unfold Hid
            cases hh : hasPlan B j (n + 1) with
            | false => rfl
            | true => have := (Hall.out (n + 1) (by omega) (by omega)).1 hh; omega
          obtain ⟨c2, f2, l2⟩ := K2.out
          go_upto_region 18 with (fail)
          refine region_plain (S := fun w' => Below w10.heap.size w10 w') 12 (by kernel_rfl) ?_ (fun hHeld => ?_)
          · exact (Below.refl _ _).drew
          first | (refine anyT_take 0 (some 114) (v := ?_) rfl rfl (by kernel_rfl) (by kernel_rfl) (by kernel_rfl) (by kernel_rfl) (fun _ _ _ h => h) (Or.inl ⟨by rfl, ?_⟩) hHeld ?_; rotate_left; focus (intro wq hSw; obtain ⟨hcq, hfq⟩ := bcell hSw; go_simp; (try with_reducible rfl); done))
          (try simp only [Act.put, List.setIfInBounds_toArray, List.set_cons_zero, List.set_cons_succ])
          first | (refine anyT_take 1 (some 115) (v := ?_) rfl rfl (by kernel_rfl) (by kernel_rfl) (by kernel_rfl) (by kernel_rfl) (fun _ _ _ h => h) (Or.inl ⟨by rfl, ?_⟩) hHeld ?_; rotate_left; focus (intro wq hSw; obtain ⟨hcq, hfq⟩ := bcell hSw; go_simp; (try with_reducible rfl); done))
          (try simp only [Act.put, List.setIfInBounds_toArray, List.set_cons_zero, List.set_cons_succ])
          first | (refine anyT_take 2 (some 116) (v := ?_) rfl rfl (by kernel_rfl) (by kernel_rfl) (by kernel_rfl) (by kernel_rfl) (fun _ _ _ h => h) (Or.inl ⟨by rfl, ?_⟩) hHeld ?_; rotate_left; focus (intro wq hSw; obtain ⟨hcq, hfq⟩ := bcell hSw; go_simp; (try with_reducible rfl); done))
          (try simp only [Act.put, List.setIfInBounds_toArray, List.set_cons_zero, List.set_cons_succ])
          first | (refine anyT_take 3 (some 117) (v := ?_) rfl rfl (by kernel_rfl) (by kernel_rfl) (by kernel_rfl) (by kernel_rfl) (fun _ _ _ h => h) (Or.inl ⟨by rfl, ?_⟩) hHeld ?_; rotate_left; focus (intro wq hSw; obtain ⟨hcq, hfq⟩ := bcell hSw; go_simp; (try with_reducible rfl); done))
          (try simp only [Act.put, List.setIfInBounds_toArray, List.set_cons_zero, List.set_cons_succ])
          first | (refine anyT_take 4 (some 118) (v := ?_) rfl rfl (by kernel_rfl) (by kernel_rfl) (by kernel_rfl) (by kernel_rfl) (fun _ _ _ h => h) (Or.inl ⟨by rfl, ?_⟩) hHeld ?_; rotate_left; focus (intro wq hSw; obtain ⟨hcq, hfq⟩ := bcell hSw; go_simp; (try with_reducible rfl); done))
          (try simp only [Act.put, List.setIfInBounds_toArray, List.set_cons_zero, List.set_cons_succ])
          refine anyT_one 5 (by kernel_rfl) rfl (fun K hK => ?_)
          go_simp
          refine (Band_calls _ _ _).mono ?_; rintro e w11 ⟨rfl, hb7⟩
          refine hK.out _ _ ?_ (fun hHeld => ?_)
          · exact below_then hHeld hHeld.size hb7
          clear hK K
          (try simp only [Act.put, List.setIfInBounds_toArray, List.set_cons_zero, List.set_cons_succ])
          refine anyT_one 6 (by kernel_rfl) rfl (fun K hK => ?_)
          have hbq : Below w.heap.size w _ := below_then H6.out H6.out.size hHeld
          go_simp
          refine (eq0_3 (v' := B.val) (by unfold BookV.val BookV.cells; rfl) (held_calls B hl5 j Hjl.out k (n + 1) _ (HB.out.below hbq))).mono ?_; clear hbq; rintro e w12 ⟨⟨gg, cc, rfl, hrd⟩, hb8⟩
          refine hK.out _ _ ?_ (fun hHeld => ?_)
          · exact below_then hHeld hHeld.size hb8
          clear hK K
          (try simp only [Act.put, List.setIfInBounds_toArray, List.set_cons_zero, List.set_cons_succ])
          refine anyT_one 7 (by kernel_rfl) rfl (fun K hK => ?_)
          have hbq : Below w.heap.size w _ := below_then H6.out H6.out.size hHeld
          go_simp
          refine (Plan_calls _ _ hrd (HM.out.below hbq)).mono ?_; clear hbq; rintro e w13 ⟨hR, hb9⟩; obtain rfl := Plan_held_none g.out Hjl.out (by omega) hR Hs3.out
          refine hK.out _ _ ?_ (fun hHeld => ?_)
          · exact below_then hHeld hHeld.size hb9
          clear hK K
          (try simp only [Act.put, List.setIfInBounds_toArray, List.set_cons_zero, List.set_cons_succ])
          first | (refine anyT_take 8 (some 113) (v := ?_) rfl rfl (by kernel_rfl) (by kernel_rfl) (by kernel_rfl) (by kernel_rfl) (fun _ _ _ h => h) (Or.inl ⟨by rfl, ?_⟩) hHeld ?_; rotate_left; focus (intro wq hSw; obtain ⟨hcq, hfq⟩ := bcell hSw; go_simp; (try with_reducible rfl); done))
          (try simp only [Act.put, List.setIfInBounds_toArray, List.set_cons_zero, List.set_cons_succ])
          first | (refine anyT_take 9 (some 122) (v := ?_) rfl rfl (by kernel_rfl) (by kernel_rfl) (by kernel_rfl) (by kernel_rfl) (fun _ _ _ h => h) (Or.inl ⟨by rfl, ?_⟩) hHeld ?_; rotate_left; focus (intro wq hSw; obtain ⟨hcq, hfq⟩ := bcell hSw; go_simp; (try with_reducible rfl); done))
          (try simp only [Act.put, List.setIfInBounds_toArray, List.set_cons_zero, List.set_cons_succ])
          first | (refine anyT_take 10 (some 123) (v := ?_) rfl rfl (by kernel_rfl) (by kernel_rfl) (by kernel_rfl) (by kernel_rfl) (fun _ _ _ h => h) (Or.inl ⟨by rfl, ?_⟩) hHeld ?_; rotate_left; focus (intro wq hSw; obtain ⟨hcq, hfq⟩ := bcell hSw; go_simp; (try with_reducible rfl); done))
          (try simp only [Act.put, List.setIfInBounds_toArray, List.set_cons_zero, List.set_cons_succ])
          first | (refine anyT_take 11 (some 14) (v := ?_) rfl rfl (by kernel_rfl) (by kernel_rfl) (by kernel_rfl) (by kernel_rfl) (fun _ _ _ h => h) (Or.inl ⟨by rfl, ?_⟩) hHeld ?_; rotate_left; focus (intro wq hSw; obtain ⟨hcq, hfq⟩ := bcell hSw; go_simp; (try with_reducible rfl); done))
          (try simp only [Act.put, List.setIfInBounds_toArray, List.set_cons_zero, List.set_cons_succ])
          refine anyT_done (by kernel_rfl) ?_ _
          have H9 := Lib.hid (below_then H6.out H6.out.size hHeld)
          clear hHeld c2 f2 l2
          go_wp2_with fail
          refine (works_calls _ (HM.out.below H9.out)).mono ?_
          rintro e w14 ⟨rfl, hb⟩
          have hfin := below_then H9.out H9.out.size hb
          clear hb
          go_wp2
          go_ret
          exact ⟨rfl, hfin⟩
end Go.Proofs.YtljikigmfkfkiaaDoor
