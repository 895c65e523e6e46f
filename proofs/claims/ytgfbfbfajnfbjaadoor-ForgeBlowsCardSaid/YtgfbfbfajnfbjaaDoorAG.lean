import Derived.Test.YtgfbfbfajnfbjaaDoorAF
namespace Go.Proofs.YtgfbfbfajnfbjaaDoor
section
open Go.RowKit Go.Shelf
attribute [local go_sem] Oper.semAt_some
set_option linter.unusedSimpArgs false
set_option linter.unusedVariables false
def blowsP (ix : Int) : Value := if ix < 0 then .tuple #[.int .i64 0, .int .i64 4] else .tuple #[.int .i64 ix, .int .i64 0]
def soundP (ix : Int) : Value := if ix = -1 then .tuple #[.int .i64 300, .int .i64 0] else if ix = 0 then .tuple #[.int .i64 0, .int .i64 4] else .tuple #[.int .i64 (ix - 1), .int .i64 0]
def blowsR (B : ForgeV) : Value := if askedE B true = 0 then blowsP (idxS (readyB B) (spansS B) 0) else .tuple #[.int .i64 0, .int .i64 (askedE B true)]
def soundR (B : ForgeV) : Value := if askedE B true = 0 then soundP (idxS (crackB B) (spansS B) 0) else .tuple #[.int .i64 0, .int .i64 (askedE B true)]
theorem idxS_bd (p : Int → Int → Bool) : ∀ (l : List (Int × Int)) (k : Nat), -1 ≤ idxS p l k ∧ idxS p l k < k + l.length ∨ idxS p l k = -1
  | [], k => .inr rfl
  | s :: l, k => by
    unfold idxS
    split
    · left; simp; omega
    · have := idxS_bd p l (k + 1)
      simp only [List.length_cons] at *
      omega
set_option maxRecDepth 100000 in
set_option maxHeartbeats 4000000 in
theorem Blows_calls (B : ForgeV) (w : World) (hB : B.Reads w) :
    Calls Tryd.prog 37 #[B.val] w fun e w' => e = .returned (blowsR B) ∧ Below w.heap.size w w' := by
  have HB := Lib.hid hB
  have k1 := BoxAt.new w B.cells 28
  have Hb : Below w.heap.size w (w.alloc (.cells B.cells 28)) := (Below.refl _ _).alloc (Nat.le_refl _) _
  have hR : Hid (blowsR B = if askedE B true = 0 then blowsP (idxS (readyB B) (spansS B) 0) else .tuple #[.int .i64 0, .int .i64 (askedE B true)]) := Lib.hid rfl
  clear hB
  unfold ForgeV.val
  unfold ForgeV.cells at k1 Hb ⊢
  by_cases he : askedE B true = 0
  · have hgr := askedE_zero he
    have hres : Hid (askedR B true = .tuple #[.agg #[.slice B.lA B.lots.length B.lCap, .int .i64 B.tlo, .int .i64 B.thi, .int .i64 B.thick, .int .i64 B.crack, .int .i64 B.glo, .int .i64 B.ghi, .slice B.sA B.thins.length B.sCap,
      .int .i64 B.hot, .int .i64 B.least, .int .i64 B.clo, .int .i64 B.chi, .int .i64 B.coal, .slice B.kA B.looks.length B.kCap], .int .i64 0]) := Lib.hid (by unfold askedR; rw [he]; rfl)
    have Hr := Lib.hid hgr
    have HR := Lib.hid (hR.out.trans (by rw [if_pos he]))
    clear he hgr hR
    go_enter Tryd.func37, Tryd.ntmps37
    go_upto_region 1 with (fail)
    generalize w.alloc _ = W1 at *
    have H1 := Lib.hid Hb
    obtain ⟨c1, f1, l1⟩ := k1
    clear Hb
    go_wp2_with fail
    refine (eq0_2 (v' := B.val) (by unfold ForgeV.val ForgeV.cells; rfl) (asked_calls B true _ (HB.out.below H1.out))).mono ?_
    rintro e w5 ⟨rfl, hb5⟩
    rw [hres.out]
    have H5 := below_then H1.out H1.out.size hb5
    clear hb5 c1 f1 l1
    have k4 := BoxAt.new w5 B.cells 87
    have hb6 : Below w5.heap.size w5 (w5.alloc (.cells B.cells 87)) := (Below.refl _ _).alloc (Nat.le_refl _) _
    unfold ForgeV.cells at k4 hb6
    go_upto_region 4 with (fail)
    generalize w5.alloc _ = w6 at *
    have H6 := Lib.hid (below_then H5 H5.size hb6)
    generalize w5.heap.size = n4 at *
    have K4 := Lib.hid k4
    obtain ⟨c4, f4, l4⟩ := k4
    clear hb6 H5
    go_wp2_with fail
    refine (eq0_1 (v' := B.val) (by unfold ForgeV.val ForgeV.cells; rfl) (spans_calls B ((goodF_iff B).1 Hr.out.1) Hr.out.2.2 _ (HB.out.below H6.out))).mono ?_
    rintro e w7 ⟨gO, rfl, hsp, hgO, hb7⟩
    have H7 := Lib.hid (below_then H6.out H6.out.size hb7)
    have K47 := Lib.hid (K4.out.below hb7)
    have Hsp := Lib.hid hsp
    clear hb7 c4 f4 l4 hsp K4
    go_wp2_with fail
    refine (index_calls 90 n4 entersBlows1 (readyB B) gO (spansS B) (by simp [spansS]) _ Hsp.out (fun lo hi W hW => Blows1_calls B n4 lo hi W (K47.out.below hW))).mono ?_
    rintro e w8 ⟨rfl, hb8⟩
    have HF := Lib.hid (below_then H7.out H7.out.size hb8)
    clear hb8
    generalize idxS (readyB B) (spansS B) 0 = ix at *
    by_cases hix : ix < 0
    · have HP := Lib.hid (HR.out.trans (by unfold blowsP; rw [if_pos hix]))
      go_wp2
      go_ret2
      exact ⟨by rw [HP.out]; rfl, HF.out⟩
    · have HP := Lib.hid (HR.out.trans (by unfold blowsP; rw [if_neg hix]))
      go_wp2
      go_ret2
      exact ⟨by rw [HP.out]; rfl, HF.out⟩
  · have hres : Hid (askedR B true = .tuple #[.agg #[.slice none 0 0, .int .i64 0, .int .i64 0, .int .i64 0, .int .i64 0, .int .i64 0, .int .i64 0, .slice none 0 0, .int .i64 0, .int .i64 0, .int .i64 0, .int .i64 0, .int .i64 0, .slice none 0 0], .int .i64 (askedE B true)]) := Lib.hid (by unfold askedR; rw [if_neg he]; rfl)
    have He := Lib.hid he
    have HR := Lib.hid (hR.out.trans (by rw [if_neg he]))
    clear he hR
    generalize askedE B true = q at *
    have hq0 : ¬ q = 0 := He.out
    go_enter Tryd.func37, Tryd.ntmps37
    go_upto_region 1 with (fail)
    generalize w.alloc _ = W1 at *
    have H1 := Lib.hid Hb
    obtain ⟨c1, f1, l1⟩ := k1
    clear Hb
    go_wp2_with fail
    refine (eq0_2 (v' := B.val) (by unfold ForgeV.val ForgeV.cells; rfl) (asked_calls B true _ (HB.out.below H1.out))).mono ?_
    rintro e w5 ⟨rfl, hb5⟩
    rw [hres.out]
    have H5 := below_then H1.out H1.out.size hb5
    have HF := Lib.hid (H5.alloc (o := .cells #[.slice none 0 0, .int .i64 0, .int .i64 0, .int .i64 0, .int .i64 0, .int .i64 0, .int .i64 0, .slice none 0 0, .int .i64 0, .int .i64 0, .int .i64 0, .int .i64 0, .int .i64 0, .slice none 0 0] 87) H5.size)
    clear hb5 c1 f1 l1 H5
    go_wp2
    go_ret2
    exact ⟨by rw [HR.out]; rfl, HF.out⟩
set_option maxRecDepth 100000 in
set_option maxHeartbeats 4000000 in
theorem Sound_calls (B : ForgeV) (w : World) (hB : B.Reads w) :
    Calls Tryd.prog 39 #[B.val] w fun e w' => e = .returned (soundR B) ∧ Below w.heap.size w w' := by
  have HB := Lib.hid hB
  have k1 := BoxAt.new w B.cells 28
  have Hb : Below w.heap.size w (w.alloc (.cells B.cells 28)) := (Below.refl _ _).alloc (Nat.le_refl _) _
  have hR : Hid (soundR B = if askedE B true = 0 then soundP (idxS (crackB B) (spansS B) 0) else .tuple #[.int .i64 0, .int .i64 (askedE B true)]) := Lib.hid rfl
  clear hB
  unfold ForgeV.val
  unfold ForgeV.cells at k1 Hb ⊢
  by_cases he : askedE B true = 0
  · have hgr := askedE_zero he
    have hres : Hid (askedR B true = .tuple #[.agg #[.slice B.lA B.lots.length B.lCap, .int .i64 B.tlo, .int .i64 B.thi, .int .i64 B.thick, .int .i64 B.crack, .int .i64 B.glo, .int .i64 B.ghi, .slice B.sA B.thins.length B.sCap,
      .int .i64 B.hot, .int .i64 B.least, .int .i64 B.clo, .int .i64 B.chi, .int .i64 B.coal, .slice B.kA B.looks.length B.kCap], .int .i64 0]) := Lib.hid (by unfold askedR; rw [he]; rfl)
    have Hr := Lib.hid hgr
    have HR := Lib.hid (hR.out.trans (by rw [if_pos he]))
    clear he hgr hR
    go_enter Tryd.func39, Tryd.ntmps39
    go_upto_region 1 with (fail)
    generalize w.alloc _ = W1 at *
    have H1 := Lib.hid Hb
    obtain ⟨c1, f1, l1⟩ := k1
    clear Hb
    go_wp2_with fail
    refine (eq0_2 (v' := B.val) (by unfold ForgeV.val ForgeV.cells; rfl) (asked_calls B true _ (HB.out.below H1.out))).mono ?_
    rintro e w5 ⟨rfl, hb5⟩
    rw [hres.out]
    have H5 := below_then H1.out H1.out.size hb5
    clear hb5 c1 f1 l1
    have k4 := BoxAt.new w5 B.cells 87
    have hb6 : Below w5.heap.size w5 (w5.alloc (.cells B.cells 87)) := (Below.refl _ _).alloc (Nat.le_refl _) _
    unfold ForgeV.cells at k4 hb6
    go_upto_region 4 with (fail)
    generalize w5.alloc _ = w6 at *
    have H6 := Lib.hid (below_then H5 H5.size hb6)
    generalize w5.heap.size = n4 at *
    have K4 := Lib.hid k4
    obtain ⟨c4, f4, l4⟩ := k4
    clear hb6 H5
    go_wp2_with fail
    refine (eq0_1 (v' := B.val) (by unfold ForgeV.val ForgeV.cells; rfl) (spans_calls B ((goodF_iff B).1 Hr.out.1) Hr.out.2.2 _ (HB.out.below H6.out))).mono ?_
    rintro e w7 ⟨gO, rfl, hsp, hgO, hb7⟩
    have H7 := Lib.hid (below_then H6.out H6.out.size hb7)
    have K47 := Lib.hid (K4.out.below hb7)
    have Hsp := Lib.hid hsp
    clear hb7 c4 f4 l4 hsp K4
    go_wp2_with fail
    refine (index_calls 91 n4 entersSound1 (crackB B) gO (spansS B) (by simp [spansS]) _ Hsp.out (fun lo hi W hW => Sound1_calls B n4 lo hi W (K47.out.below hW))).mono ?_
    rintro e w8 ⟨rfl, hb8⟩
    have HF := Lib.hid (below_then H7.out H7.out.size hb8)
    clear hb8
    have hixd := idxS_bd (crackB B) (spansS B) 0
    have hsl : (spansS B).length = 301 := by simp [spansS]
    rw [hsl] at hixd
    generalize idxS (crackB B) (spansS B) 0 = ix at *
    by_cases hix : ix = -1
    · have HP := Lib.hid (HR.out.trans (by unfold soundP; rw [if_pos hix]))
      have hixb : (ix == -1) = true := by simpa using hix
      clear hix
      go_wp2
      go_ret2
      exact ⟨by rw [HP.out]; rfl, HF.out⟩
    · have hixb : (ix == -1) = false := by simpa using hix
      by_cases hi0 : ix = 0
      · have HP := Lib.hid (HR.out.trans (by unfold soundP; rw [if_neg hix, if_pos hi0]))
        clear hix
        subst hi0
        go_wp2
        go_ret2
        exact ⟨by rw [HP.out]; rfl, HF.out⟩
      · have HP := Lib.hid (HR.out.trans (by unfold soundP; rw [if_neg hix, if_neg hi0]))
        have hi0b : (ix == 0) = false := by simpa using hi0
        have hw : IntKind.i64.wrap (ix - 1) = ix - 1 := wrap_in (by omega) (by omega)
        clear hix hi0
        go_wp2
        go_ret2
        exact ⟨by rw [HP.out]; rfl, HF.out⟩
  · have hres : Hid (askedR B true = .tuple #[.agg #[.slice none 0 0, .int .i64 0, .int .i64 0, .int .i64 0, .int .i64 0, .int .i64 0, .int .i64 0, .slice none 0 0, .int .i64 0, .int .i64 0, .int .i64 0, .int .i64 0, .int .i64 0, .slice none 0 0], .int .i64 (askedE B true)]) := Lib.hid (by unfold askedR; rw [if_neg he]; rfl)
    have He := Lib.hid he
    have HR := Lib.hid (hR.out.trans (by rw [if_neg he]))
    clear he hR
    generalize askedE B true = q at *
    have hq0 : ¬ q = 0 := He.out
    go_enter Tryd.func39, Tryd.ntmps39
    go_upto_region 1 with (fail)
    generalize w.alloc _ = W1 at *
    have H1 := Lib.hid Hb
    obtain ⟨c1, f1, l1⟩ := k1
    clear Hb
    go_wp2_with fail
    refine (eq0_2 (v' := B.val) (by unfold ForgeV.val ForgeV.cells; rfl) (asked_calls B true _ (HB.out.below H1.out))).mono ?_
    rintro e w5 ⟨rfl, hb5⟩
    rw [hres.out]
    have H5 := below_then H1.out H1.out.size hb5
    have HF := Lib.hid (H5.alloc (o := .cells #[.slice none 0 0, .int .i64 0, .int .i64 0, .int .i64 0, .int .i64 0, .int .i64 0, .int .i64 0, .slice none 0 0, .int .i64 0, .int .i64 0, .int .i64 0, .int .i64 0, .int .i64 0, .slice none 0 0] 87) H5.size)
    clear hb5 c1 f1 l1 H5
    go_wp2
    go_ret2
    exact ⟨by rw [HR.out]; rfl, HF.out⟩
end
end Go.Proofs.YtgfbfbfajnfbjaaDoor
