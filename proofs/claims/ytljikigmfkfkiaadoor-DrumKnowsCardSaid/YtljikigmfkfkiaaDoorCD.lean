import Derived.Test.YtljikigmfkfkiaaDoorCC
import Derived.Test.YtljikigmfkfkiaaDoorAX
namespace Go.Proofs.YtljikigmfkfkiaaDoor
open Go.RowKit Go.Shelf
attribute [local go_sem] Oper.semAt_some
set_option linter.unusedSimpArgs false
set_option linter.unusedVariables false

set_option maxRecDepth 100000 in
set_option maxHeartbeats 8000000 in
theorem DrumKnows_calls (B : BookV) (A : Option Addr) (c : Nat) (heard : List Int) (part : Int) (w : World) (hB : B.Reads w) (hp : IntsAt w A heard) (hM : MarksAt w) :
    Calls Tryd.prog 6 #[B.val, .slice A heard.length c, .int .i64 part] w fun e w' => e = .returned (.bool true) ∧ Below w.heap.size w w' := by
  have HB := Lib.hid hB
  have HP := Lib.hid hp
  have HM := Lib.hid hM
  have H : Below w.heap.size w (w.alloc (.cells B.cells 27)) := (Below.refl _ _).alloc (Nat.le_refl _) _
  have k2 := BoxAt.new w B.cells 27
  clear hB hp hM
  unfold BookV.val BookV.cells
  go_enter Tryd.func6, Tryd.ntmps6
  go_upto_region 1 with (fail)
  unfold BookV.cells at H k2
  generalize w.alloc _ = w0 at *
  have K2 := Lib.hid k2
  clear k2
  obtain ⟨c2, f2, l2⟩ := K2.out
  go_wp2_with fail
  refine (eq0_3 (v' := B.val) (by unfold BookV.val BookV.cells; rfl) (Knows_calls B A c heard part _ (HB.out.below H) (HP.out.below H) (HM.out.below H))).mono ?_
  rintro e w1 ⟨hR, hb⟩
  obtain ⟨A3, c3, rfl, hi3⟩ := KnowsR_val hR
  replace H := below_then H H.size hb
  replace K2 := Lib.hid (K2.out.below hb)
  have Hi3 := Lib.hid hi3
  clear hb c2 f2 l2 hR hi3
  obtain ⟨c2, f2, l2⟩ := K2.out
  go_wp2_with fail
  refine (eq0_3 (v' := B.val) (by unfold BookV.val BookV.cells; rfl) (refKnows_calls B A c heard part _ (HB.out.below H) (HP.out.below H))).mono ?_
  rintro e w4 ⟨⟨A4, c4, rfl, hi4⟩, hb⟩
  have H4 := Lib.hid (below_then H H.size hb)
  replace Hi3 := Lib.hid (Hi3.out.below hb)
  have Hi4 := Lib.hid hi4
  clear hb c2 f2 l2 hi4 H
  generalize (knowsV B heard part).1 = ll at *
  generalize (knowsV B heard part).2 = le at *
  go_wp2_with fail
  refine (Equal_calls A3 c3 ll A4 c4 ll _ Hi3.out Hi4.out).mono ?_
  rintro e w5 ⟨rfl, hb⟩
  rw [eqL_self]
  have HH := Lib.hid (below_then H4.out H4.out.size hb)
  clear hb
  go_wp2_with fail
  refine (works_calls _ (HM.out.below HH.out)).mono ?_
  rintro e w8 ⟨rfl, hb⟩
  have hfin := below_then HH.out HH.out.size hb
  clear hb
  go_wp2
  go_ret
  exact ⟨rfl, hfin⟩
end Go.Proofs.YtljikigmfkfkiaaDoor
