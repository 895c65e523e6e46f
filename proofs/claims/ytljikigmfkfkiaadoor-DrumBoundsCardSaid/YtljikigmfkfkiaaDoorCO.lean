import Derived.Test.YtljikigmfkfkiaaDoorCM
namespace Go.Proofs.YtljikigmfkfkiaaDoor
open Go.RowKit Go.Shelf
attribute [local go_sem] Oper.semAt_some
set_option linter.unusedSimpArgs false
set_option linter.unusedVariables false

set_option maxRecDepth 100000 in
set_option maxHeartbeats 8000000 in
theorem DrumBounds_calls (B : BookV) (player : Int) (A : Option Addr) (c : Nat) (path : List Int) (w : World) (hB : B.Reads w) (hp : IntsAt w A path) (hM : MarksAt w) :
    Calls Tryd.prog 5 #[B.val, .int .i64 player, .slice A path.length c] w fun e w' => e = .returned (.bool true) ∧ Below w.heap.size w w' := by
  have HB := Lib.hid hB
  have HP := Lib.hid hp
  have HM := Lib.hid hM
  have H : Below w.heap.size w (w.alloc (.cells B.cells 27)) := (Below.refl _ _).alloc (Nat.le_refl _) _
  have k2 := BoxAt.new w B.cells 27
  clear hB hp hM
  unfold BookV.val BookV.cells
  go_enter Tryd.func5, Tryd.ntmps5
  go_upto_region 1 with (fail)
  unfold BookV.cells at H k2
  generalize w.alloc _ = w0 at *
  have K2 := Lib.hid k2
  clear k2
  obtain ⟨c2, f2, l2⟩ := K2.out
  obtain ⟨pn, pe, hN⟩ : ∃ pn pe, boundR B player = .tuple #[.int .i64 pn, .int .i64 pe] := by unfold boundR two; cases goodB B <;> cases inB player 0 (B.players.length - 1) <;> cases hasPlan B player.toNat 0 <;> exact ⟨_, _, rfl⟩
  have HN := Lib.hid hN
  clear hN
  go_wp2_with fail
  refine (eq0_2 (v' := B.val) (by unfold BookV.val BookV.cells; rfl) (Bound_calls B player _ (HB.out.below H) (HM.out.below H))).mono ?_
  rintro e w1 ⟨rfl, hb⟩
  rw [HN.out]
  replace H := below_then H H.size hb
  replace K2 := Lib.hid (K2.out.below hb)
  clear hb c2 f2 l2
  obtain ⟨c2, f2, l2⟩ := K2.out
  go_wp2_with fail
  refine (eq0_2 (v' := B.val) (by unfold BookV.val BookV.cells; rfl) (refBound_calls B player _ (HB.out.below H))).mono ?_
  rintro e w2 ⟨rfl, hb⟩
  rw [HN.out]
  replace H := below_then H H.size hb
  replace K2 := Lib.hid (K2.out.below hb)
  clear hb c2 f2 l2
  obtain ⟨c2, f2, l2⟩ := K2.out
  go_wp2_with fail
  refine (eq0_2 (v' := B.val) (by unfold BookV.val BookV.cells; rfl) (Cues_calls B A c path _ (HB.out.below H) (HP.out.below H))).mono ?_
  rintro e w3 ⟨hR, hb⟩
  obtain ⟨A3, c3, rfl, hi3⟩ := CuesR_val hR
  replace H := below_then H H.size hb
  replace K2 := Lib.hid (K2.out.below hb)
  have Hi3 := Lib.hid hi3
  clear hb c2 f2 l2 hR hi3
  obtain ⟨c2, f2, l2⟩ := K2.out
  go_wp2_with fail
  refine (eq0_2 (v' := B.val) (by unfold BookV.val BookV.cells; rfl) (refCues_calls B A c path _ (HB.out.below H) (HP.out.below H))).mono ?_
  rintro e w4 ⟨⟨A4, c4, rfl, hi4⟩, hb⟩
  replace H := below_then H H.size hb
  replace Hi3 := Lib.hid (Hi3.out.below hb)
  have Hi4 := Lib.hid hi4
  clear hb c2 f2 l2 hi4 K2
  generalize (cuesV B path).1 = ll at *
  generalize (cuesV B path).2 = le at *
  have H4 := Lib.hid H
  clear H
  go_wp2_with fail
  refine (SameCues_true A3 c3 A4 c4 ll _ Hi3.out Hi4.out).mono ?_
  rintro e w5 ⟨rfl, hb⟩
  have H5 := Lib.hid (below_then H4.out H4.out.size hb)
  clear hb
  go_wp2_with fail
  refine (works_calls _ (HM.out.below H5.out)).mono ?_
  rintro e w8 ⟨rfl, hb⟩
  have hfin := below_then H5.out H5.out.size hb
  clear hb
  go_wp2
  go_ret
  exact ⟨rfl, hfin⟩
end Go.Proofs.YtljikigmfkfkiaaDoor
