import Derived.Test.YtljikigmfkfkiaaDoorBY
import Derived.Test.YtljikigmfkfkiaaDoorAX
namespace Go.Proofs.YtljikigmfkfkiaaDoor
open Go.RowKit Go.Shelf
attribute [local go_sem] Oper.semAt_some
set_option linter.unusedSimpArgs false
set_option linter.unusedVariables false

set_option maxRecDepth 100000 in
set_option maxHeartbeats 8000000 in
theorem DrumPlans_calls (B : BookV) (A : Option Addr) (c : Nat) (path : List Int) (w : World) (hB : B.Reads w) (hp : IntsAt w A path) (hM : MarksAt w) :
    Calls Tryd.prog 4 #[B.val, .slice A path.length c] w fun e w' => e = .returned (.bool true) ∧ Below w.heap.size w w' := by
  have HB := Lib.hid hB
  have HP := Lib.hid hp
  have HM := Lib.hid hM
  have H : Below w.heap.size w (w.alloc (.cells B.cells 27)) := (Below.refl _ _).alloc (Nat.le_refl _) _
  have k2 := BoxAt.new w B.cells 27
  clear hB hp hM
  unfold BookV.val BookV.cells
  go_enter Tryd.func4, Tryd.ntmps4
  go_upto_region 1 with (fail)
  unfold BookV.cells at H k2
  generalize w.alloc _ = w0 at *
  have K2 := Lib.hid k2
  clear k2
  obtain ⟨c2, f2, l2⟩ := K2.out
  obtain ⟨ib, ie, hI⟩ : ∃ ib ie, isPlanR B path = .tuple #[.bool ib, .int .i64 ie] := by unfold isPlanR; cases goodB B <;> exact ⟨_, _, rfl⟩
  obtain ⟨pn, pe, hN⟩ : ∃ pn pe, plansR B = .tuple #[.int .i64 pn, .int .i64 pe] := by unfold plansR; cases goodB B <;> exact ⟨_, _, rfl⟩
  have HI := Lib.hid hI
  have HN := Lib.hid hN
  clear hI hN
  -- IsPlan
  go_wp2_with fail
  refine (eq0_2 (v' := B.val) (by unfold BookV.val BookV.cells; rfl) (IsPlan_calls B A c path _ (HB.out.below H) (HP.out.below H) (HM.out.below H))).mono ?_
  rintro e w1 ⟨rfl, hb⟩
  rw [HI.out]
  replace H := below_then H H.size hb
  replace K2 := Lib.hid (K2.out.below hb)
  clear hb c2 f2 l2
  obtain ⟨c2, f2, l2⟩ := K2.out
  go_wp2_with fail
  refine (eq0_2 (v' := B.val) (by unfold BookV.val BookV.cells; rfl) (refIsPlan_calls B A c path _ (HB.out.below H) (HP.out.below H))).mono ?_
  rintro e w2 ⟨rfl, hb⟩
  rw [HI.out]
  replace H := below_then H H.size hb
  replace K2 := Lib.hid (K2.out.below hb)
  clear hb c2 f2 l2
  obtain ⟨c2, f2, l2⟩ := K2.out
  -- Plan
  go_wp2_with fail
  refine (eq0_1 (v' := B.val) (by unfold BookV.val BookV.cells; rfl) (Plan_calls B _ (HB.out.below H) (HM.out.below H))).mono ?_
  rintro e w3 ⟨hR, hb⟩
  obtain ⟨A3, c3, rfl, hi3⟩ := PlanR_val hR
  replace H := below_then H H.size hb
  replace K2 := Lib.hid (K2.out.below hb)
  have Hi3 := Lib.hid hi3
  clear hb c2 f2 l2 hR hi3
  obtain ⟨c2, f2, l2⟩ := K2.out
  go_wp2_with fail
  refine (eq0_1 (v' := B.val) (by unfold BookV.val BookV.cells; rfl) (refPlan_calls B _ (HB.out.below H))).mono ?_
  rintro e w4 ⟨⟨A4, c4, rfl, hi4⟩, hb⟩
  replace H := below_then H H.size hb
  replace K2 := Lib.hid (K2.out.below hb)
  replace Hi3 := Lib.hid (Hi3.out.below hb)
  have Hi4 := Lib.hid hi4
  clear hb c2 f2 l2 hi4
  generalize (planV B).1 = ll at *
  generalize (planV B).2 = le at *
  obtain ⟨c2, f2, l2⟩ := K2.out
  have H4 := Lib.hid H
  clear H
  go_wp2_with fail
  refine (Equal_calls A3 c3 ll A4 c4 ll _ Hi3.out Hi4.out).mono ?_
  rintro e w5 ⟨rfl, hb⟩
  rw [eqL_self]
  have H := below_then H4.out H4.out.size hb
  replace K2 := Lib.hid (K2.out.below hb)
  clear hb c2 f2 l2
  obtain ⟨c2, f2, l2⟩ := K2.out
  -- Plans
  go_wp2_with fail
  refine (eq0_1 (v' := B.val) (by unfold BookV.val BookV.cells; rfl) (Plans_calls B _ (HB.out.below H) (HM.out.below H))).mono ?_
  rintro e w6 ⟨rfl, hb⟩
  rw [HN.out]
  replace H := below_then H H.size hb
  replace K2 := Lib.hid (K2.out.below hb)
  clear hb c2 f2 l2
  obtain ⟨c2, f2, l2⟩ := K2.out
  go_wp2_with fail
  refine (eq0_1 (v' := B.val) (by unfold BookV.val BookV.cells; rfl) (refPlans_calls B _ (HB.out.below H))).mono ?_
  rintro e w7 ⟨rfl, hb⟩
  rw [HN.out]
  have HH := Lib.hid (below_then H H.size hb)
  clear hb c2 f2 l2 H
  go_wp2_with fail
  refine (works_calls _ (HM.out.below HH.out)).mono ?_
  rintro e w8 ⟨rfl, hb⟩
  have hfin := below_then HH.out HH.out.size hb
  clear hb
  go_wp2
  go_ret
  exact ⟨rfl, hfin⟩
end Go.Proofs.YtljikigmfkfkiaaDoor
