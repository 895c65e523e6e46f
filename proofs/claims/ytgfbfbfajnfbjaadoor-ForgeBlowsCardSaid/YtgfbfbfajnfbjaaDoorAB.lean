import Derived.Test.YtgfbfbfajnfbjaaDoorT
namespace Go.Proofs.YtgfbfbfajnfbjaaDoor
section
open Go.RowKit Go.Shelf
attribute [local go_sem] Oper.semAt_some
set_option linter.unusedSimpArgs false
set_option linter.unusedVariables false
def hLo (B : ForgeV) (n : Int) : Int := heatsS B n B.clo
def hHi (B : ForgeV) (n : Int) : Int := heatsS B n B.chi
def heatsR (B : ForgeV) (n : Int) : Value := bif goodF B then (bif inB n 0 300 then .tuple #[.agg #[.int .i64 (hLo B n), .int .i64 (hHi B n)], .agg #[.int .i64 (hLo B n * B.coal), .int .i64 (hHi B n * B.coal)], .int .i64 0]
  else .tuple #[.agg #[.int .i64 0, .int .i64 0], .agg #[.int .i64 0, .int .i64 0], .int .i64 21]) else .tuple #[.agg #[.int .i64 0, .int .i64 0], .agg #[.int .i64 0, .int .i64 0], .int .i64 20]
theorem heatsS_bd {B : ForgeV} (g : B.Good) {n cool : Int} (hn : 0 ≤ n ∧ n ≤ 300) (hc : 1 ≤ cool) : 0 ≤ heatsS B n cool ∧ heatsS B n cool ≤ 300 := by
  have he := eachS_bd g hc
  unfold heatsS
  generalize eachS B cool = e at *
  refine ⟨Int.ediv_nonneg (by omega) (by omega), ?_⟩
  have h1 : (n + e - 1) / e < 301 := by
    rw [Int.ediv_lt_iff_lt_mul (by omega)]
    have h2 : 0 ≤ 300 * (e - 1) := Int.mul_nonneg (by decide) (by omega)
    have h3 : 301 * e = 300 * (e - 1) + e + 300 := by omega
    omega
  omega
theorem box2_keep {W : World} {b c : Nat} {cs : Array Value} (h : BoxAt W c cs) (hne : c ≠ b) (x y : Value) : BoxAt ((W.setCell ⟨b, 0, none⟩ x).setCell ⟨b, 1, none⟩ y) c cs :=
  h.keep (Keep.setCell (M := fun k => k = b) (Keep.setCell (M := fun k => k = b) (Keep.refl _ _) (p := ⟨b, 0, none⟩) (.inl rfl) x) (p := ⟨b, 1, none⟩) (.inl rfl) y) hne
theorem heats_end {a : Act} {W w : World} {n4 n5 : Nat} {x0 x1 y0 y1 e r : Value} (k4 : BoxAt W n4 #[x0, x1]) (k5 : BoxAt W n5 #[y0, y1]) (h4 : a.tmps.getD 4 undef = .pointer (some ⟨n4, 0, none⟩)) (h5 : a.tmps.getD 5 undef = .pointer (some ⟨n5, 0, none⟩)) (h6 : a.tmps.getD 6 undef = e) (hd : a.defers = [])
    (hv : r = .tuple #[.agg #[x0, x1], .agg #[y0, y1], e]) (hb : Below w.heap.size w W) :
    bodyPost Tryd.prog Tryd.f41 (fun e w' => e = .returned r ∧ Below w.heap.size w w') .ret a W := by
  obtain ⟨c4, f4, l4⟩ := k4
  obtain ⟨c5, f5, l5⟩ := k5
  refine bodyPost_ret (v := .tuple #[.agg #[x0, x1], .agg #[y0, y1], e]) ?_ hd ⟨by rw [hv], hb⟩
  rw [← h6]
  simp only [Array.getD_eq_getD_getElem?] at h4 h5
  simp [results, Tryd.results41, h4, h5, go_sem, c4, c5]
set_option maxRecDepth 100000 in
set_option maxHeartbeats 4000000 in
theorem Heats_calls (B : ForgeV) (n : Int) (w : World) (hB : B.Reads w) :
    Calls Tryd.prog 41 #[B.val, .int .i64 n] w fun e w' => e = .returned (heatsR B n) ∧ Below w.heap.size w w' := by
  have HB := Lib.hid hB
  have k2 := ((BoxAt.new w B.cells 28).alloc (.cells #[.int .i64 0, .int .i64 0] 24)).alloc (.cells #[.int .i64 0, .int .i64 0] 24)
  have k4 := (BoxAt.new (w.alloc (.cells B.cells 28)) #[.int .i64 0, .int .i64 0] 24).alloc (.cells #[.int .i64 0, .int .i64 0] 24)
  have k5 := BoxAt.new ((w.alloc (.cells B.cells 28)).alloc (.cells #[.int .i64 0, .int .i64 0] 24)) #[.int .i64 0, .int .i64 0] 24
  have Hb : Below w.heap.size w (((w.alloc (.cells B.cells 28)).alloc (.cells #[.int .i64 0, .int .i64 0] 24)).alloc (.cells #[.int .i64 0, .int .i64 0] 24)) := (((Below.refl _ _).alloc (Nat.le_refl _) _).alloc (by simp) _).alloc (by simp; omega) _
  simp only [World.size_alloc] at k4 k5
  have hR : Hid (heatsR B n = bif goodF B then (bif inB n 0 300 then .tuple #[.agg #[.int .i64 (hLo B n), .int .i64 (hHi B n)], .agg #[.int .i64 (hLo B n * B.coal), .int .i64 (hHi B n * B.coal)], .int .i64 0]
    else .tuple #[.agg #[.int .i64 0, .int .i64 0], .agg #[.int .i64 0, .int .i64 0], .int .i64 21]) else .tuple #[.agg #[.int .i64 0, .int .i64 0], .agg #[.int .i64 0, .int .i64 0], .int .i64 20]) := Lib.hid rfl
  clear hB
  unfold ForgeV.val
  unfold ForgeV.cells at k2 k4 k5 Hb ⊢
  go_enter Tryd.func41, Tryd.ntmps41
  go_upto_region 1 with (fail)
  generalize World.alloc (World.alloc (World.alloc w _) _) _ = W at *
  have hns : w.heap.size < w.heap.size + 1 ∧ w.heap.size + 1 < w.heap.size + 1 + 1 := by omega
  generalize w.heap.size + 1 + 1 = n5 at *
  generalize w.heap.size + 1 = n4 at *
  have H1 := Lib.hid Hb
  have K4 := Lib.hid k4
  have K5 := Lib.hid k5
  have K2 := Lib.hid k2
  obtain ⟨c2, f2, l2⟩ := k2
  clear Hb k4 k5
  go_wp2_with fail
  refine (eq0_1 (v' := B.val) (by unfold ForgeV.val ForgeV.cells; rfl) (Check_calls B _ (HB.out.below H1.out))).mono ?_
  rintro e w1 ⟨rfl, hb⟩
  clear c2 f2 l2
  have H2 := below_then H1.out H1.out.size hb
  replace K4 := Lib.hid (K4.out.below hb)
  replace K5 := Lib.hid (K5.out.below hb)
  replace K2 := Lib.hid (K2.out.below hb)
  clear hb H1
  have hnn : n4 ≠ n5 ∧ w.heap.size ≤ n4 ∧ w.heap.size ≤ n5 := by omega
  cases hg : goodF B with
  | false =>
    rw [cond_false]
    have hz := Lib.hid (show heatsR B n = _ from hR.out.trans (by rw [hg]))
    clear hg
    go_upto_region 3 with (fail)
    refine region_plain (S := fun w' => BoxAt w' n4 #[.int .i64 0, .int .i64 0] ∧ BoxAt w' n5 #[.int .i64 0, .int .i64 0] ∧ Below w.heap.size w w') 6 (by kernel_rfl) ?_ (fun hHeld => ?_)
    · exact ⟨K4.out.below ((Below.refl _ _).drew), K5.out.below ((Below.refl _ _).drew), H2.drew⟩
    generalize World.drew w1 = Wd at *
    first | (refine anyT_take 0 (some 13) (v := ?_) rfl rfl (by kernel_rfl) (by kernel_rfl) (by kernel_rfl) (by kernel_rfl) (fun _ _ _ h => h) (Or.inl ⟨by rfl, ?_⟩) hHeld ?_; rotate_left; focus (intro wq hSw; obtain ⟨⟨c4, f4, l4⟩, ⟨c5, f5, l5⟩, _⟩ := hSw; go_simp; (try with_reducible rfl); done))
    (try simp only [Act.put, List.setIfInBounds_toArray, List.set_cons_zero, List.set_cons_succ])
    first | (refine anyT_take 1 (some 14) (v := ?_) rfl rfl (by kernel_rfl) (by kernel_rfl) (by kernel_rfl) (by kernel_rfl) (fun _ _ _ h => h) (Or.inl ⟨by rfl, ?_⟩) hHeld ?_; rotate_left; focus (intro wq hSw; obtain ⟨⟨c4, f4, l4⟩, ⟨c5, f5, l5⟩, _⟩ := hSw; go_simp; (try with_reducible rfl); done))
    (try simp only [Act.put, List.setIfInBounds_toArray, List.set_cons_zero, List.set_cons_succ])
    first | (refine anyT_take 2 (some 15) (v := ?_) rfl rfl (by kernel_rfl) (by kernel_rfl) (by kernel_rfl) (by kernel_rfl) (fun _ _ _ h => h) (Or.inl ⟨by rfl, ?_⟩) hHeld ?_; rotate_left; focus (intro wq hSw; obtain ⟨⟨c4, f4, l4⟩, ⟨c5, f5, l5⟩, _⟩ := hSw; go_simp; (try with_reducible rfl); done))
    (try simp only [Act.put, List.setIfInBounds_toArray, List.set_cons_zero, List.set_cons_succ])
    refine anyT_one 3 (by kernel_rfl) rfl (fun K hK => ?_)
    have hs := box_store2 hHeld.1 rfl (.int .i64 0) (.int .i64 0); have h5 := hHeld.2.1; have hS : BoxAt _ n4 _ ∧ BoxAt _ n5 _ ∧ Below w.heap.size w _ := ⟨hs.1, box2_keep h5 (Ne.symm hnn.1) (.int .i64 0) (.int .i64 0), hHeld.2.2.trans (hs.2 w.heap.size hnn.2.1)⟩; clear hs h5; obtain ⟨⟨c4, f4, l4⟩, h5, h6⟩ := hHeld
    go_simp
    refine hK.out _ _ ?_ (fun hHeld => ?_)
    · exact hS
    clear hK K
    (try simp only [Act.put, List.setIfInBounds_toArray, List.set_cons_zero, List.set_cons_succ])
    refine anyT_one 4 (by kernel_rfl) rfl (fun K hK => ?_)
    clear hS; have hs := box_store2 hHeld.2.1 rfl (.int .i64 0) (.int .i64 0); have h4 := hHeld.1; have hS : BoxAt _ n4 _ ∧ BoxAt _ n5 _ ∧ Below w.heap.size w _ := ⟨box2_keep h4 hnn.1 (.int .i64 0) (.int .i64 0), hs.1, hHeld.2.2.trans (hs.2 w.heap.size hnn.2.2)⟩; clear hs h4; obtain ⟨h4, ⟨c5, f5, l5⟩, h6⟩ := hHeld
    go_simp
    refine hK.out _ _ ?_ (fun hHeld => ?_)
    · exact hS
    clear hK K
    (try simp only [Act.put, List.setIfInBounds_toArray, List.set_cons_zero, List.set_cons_succ])
    first | (refine anyT_take 5 (some 6) (v := ?_) rfl rfl (by kernel_rfl) (by kernel_rfl) (by kernel_rfl) (by kernel_rfl) (fun _ _ _ h => h) (Or.inl ⟨by rfl, ?_⟩) hHeld ?_; rotate_left; focus (intro wq hSw; obtain ⟨⟨c4, f4, l4⟩, ⟨c5, f5, l5⟩, _⟩ := hSw; go_simp; (try with_reducible rfl); done))
    (try simp only [Act.put, List.setIfInBounds_toArray, List.set_cons_zero, List.set_cons_succ])
    refine anyT_done (by kernel_rfl) ?_ _
    go_wp2
    exact heats_end hHeld.1 hHeld.2.1 rfl rfl rfl rfl hz.out hHeld.2.2
  | true =>
    rw [cond_true]
    have Hgg := Lib.hid hg
    have Hg := Lib.hid ((goodF_iff B).1 hg)
    clear hg
    go_wp2_with fail
    refine (in_calls _ _ _ _).mono ?_
    rintro e w2 ⟨rfl, rfl⟩
    cases hin : inB n 0 300 with
    | false =>
      have hz := Lib.hid (show heatsR B n = _ from hR.out.trans (by rw [Hgg.out, hin]))
      clear hin
      go_upto_region 5 with (fail)
      refine region_plain (S := fun w' => BoxAt w' n4 #[.int .i64 0, .int .i64 0] ∧ BoxAt w' n5 #[.int .i64 0, .int .i64 0] ∧ Below w.heap.size w w') 5 (by kernel_rfl) ?_ (fun hHeld => ?_)
      · exact ⟨K4.out.below ((Below.refl _ _).drew), K5.out.below ((Below.refl _ _).drew), H2.drew⟩
      generalize World.drew w1 = Wd at *
      first | (refine anyT_take 0 (some 19) (v := ?_) rfl rfl (by kernel_rfl) (by kernel_rfl) (by kernel_rfl) (by kernel_rfl) (fun _ _ _ h => h) (Or.inl ⟨by rfl, ?_⟩) hHeld ?_; rotate_left; focus (intro wq hSw; obtain ⟨⟨c4, f4, l4⟩, ⟨c5, f5, l5⟩, _⟩ := hSw; go_simp; (try with_reducible rfl); done))
      (try simp only [Act.put, List.setIfInBounds_toArray, List.set_cons_zero, List.set_cons_succ])
      first | (refine anyT_take 1 (some 20) (v := ?_) rfl rfl (by kernel_rfl) (by kernel_rfl) (by kernel_rfl) (by kernel_rfl) (fun _ _ _ h => h) (Or.inl ⟨by rfl, ?_⟩) hHeld ?_; rotate_left; focus (intro wq hSw; obtain ⟨⟨c4, f4, l4⟩, ⟨c5, f5, l5⟩, _⟩ := hSw; go_simp; (try with_reducible rfl); done))
      (try simp only [Act.put, List.setIfInBounds_toArray, List.set_cons_zero, List.set_cons_succ])
      refine anyT_one 2 (by kernel_rfl) rfl (fun K hK => ?_)
      have hs := box_store2 hHeld.1 rfl (.int .i64 0) (.int .i64 0); have h5 := hHeld.2.1; have hS : BoxAt _ n4 _ ∧ BoxAt _ n5 _ ∧ Below w.heap.size w _ := ⟨hs.1, box2_keep h5 (Ne.symm hnn.1) (.int .i64 0) (.int .i64 0), hHeld.2.2.trans (hs.2 w.heap.size hnn.2.1)⟩; clear hs h5; obtain ⟨⟨c4, f4, l4⟩, h5, h6⟩ := hHeld
      go_simp
      refine hK.out _ _ ?_ (fun hHeld => ?_)
      · exact hS
      clear hK K
      (try simp only [Act.put, List.setIfInBounds_toArray, List.set_cons_zero, List.set_cons_succ])
      refine anyT_one 3 (by kernel_rfl) rfl (fun K hK => ?_)
      clear hS; have hs := box_store2 hHeld.2.1 rfl (.int .i64 0) (.int .i64 0); have h4 := hHeld.1; have hS : BoxAt _ n4 _ ∧ BoxAt _ n5 _ ∧ Below w.heap.size w _ := ⟨box2_keep h4 hnn.1 (.int .i64 0) (.int .i64 0), hs.1, hHeld.2.2.trans (hs.2 w.heap.size hnn.2.2)⟩; clear hs h4; obtain ⟨h4, ⟨c5, f5, l5⟩, h6⟩ := hHeld
      go_simp
      refine hK.out _ _ ?_ (fun hHeld => ?_)
      · exact hS
      clear hK K
      (try simp only [Act.put, List.setIfInBounds_toArray, List.set_cons_zero, List.set_cons_succ])
      first | (refine anyT_take 4 (some 6) (v := ?_) rfl rfl (by kernel_rfl) (by kernel_rfl) (by kernel_rfl) (by kernel_rfl) (fun _ _ _ h => h) (Or.inl ⟨by rfl, ?_⟩) hHeld ?_; rotate_left; focus (intro wq hSw; obtain ⟨⟨c4, f4, l4⟩, ⟨c5, f5, l5⟩, _⟩ := hSw; go_simp; (try with_reducible rfl); done))
      (try simp only [Act.put, List.setIfInBounds_toArray, List.set_cons_zero, List.set_cons_succ])
      refine anyT_done (by kernel_rfl) ?_ _
      go_wp2
      exact heats_end hHeld.1 hHeld.2.1 rfl rfl rfl rfl hz.out hHeld.2.2
    | true =>
      have hz := Lib.hid (show heatsR B n = _ from hR.out.trans (by rw [Hgg.out, hin]))
      have hn := inB_iff.1 hin
      have Hn := Lib.hid hn
      have g := Hg.out
      have hcl := heatsS_bd g hn (cool := B.clo) (by have := g.cool; omega)
      have hch := heatsS_bd g hn (cool := B.chi) (by have := g.cool; omega)
      have hco := g.coal
      have hc1 := Lib.hid (show 1 ≤ B.clo ∧ B.clo ≤ 300 by have := g.cool; omega)
      have hc2 := Lib.hid (show 1 ≤ B.chi ∧ B.chi ≤ 300 by have := g.cool; omega)
      have m1 : 0 ≤ hLo B n * B.coal := Int.mul_nonneg hcl.1 hco.1
      have m2 : 0 ≤ hHi B n * B.coal := Int.mul_nonneg hch.1 hco.1
      have m3 : hLo B n * B.coal ≤ 300 * 100 := Int.mul_le_mul hcl.2 hco.2 hco.1 (by decide)
      have m4 : hHi B n * B.coal ≤ 300 * 100 := Int.mul_le_mul hch.2 hco.2 hco.1 (by decide)
      have hw1 : IntKind.i64.wrap (hLo B n * B.coal) = hLo B n * B.coal := wrap_in (by omega) (by omega)
      have hw2 : IntKind.i64.wrap (hHi B n * B.coal) = hHi B n * B.coal := wrap_in (by omega) (by omega)
      have hl : Hid (heatsS B n B.clo = hLo B n) := Lib.hid rfl
      have hh : Hid (heatsS B n B.chi = hHi B n) := Lib.hid rfl
      clear hin hn g hcl hch hco m1 m2 m3 m4
      have k8 := BoxAt.new w1 B.cells 87
      have hb8 : Below w1.heap.size w1 (w1.alloc (.cells B.cells 87)) := (Below.refl _ _).alloc (Nat.le_refl _) _
      unfold ForgeV.cells at k8 hb8
      obtain ⟨c2, f2, l2⟩ := K2.out
      go_upto_region 7 with (fail)
      clear c2 f2 l2
      generalize w1.alloc _ = w3 at *
      have hn8 : n4 ≠ w1.heap.size ∧ n5 ≠ w1.heap.size ∧ w.heap.size ≤ w1.heap.size := by have := K4.out.lt; have := K5.out.lt; omega
      have H3 := Lib.hid (below_then H2 H2.size hb8)
      replace K4 := Lib.hid (K4.out.below hb8)
      replace K5 := Lib.hid (K5.out.below hb8)
      generalize w1.heap.size = n8 at *
      have K8 := Lib.hid k8
      clear hb8 k8 H2
      refine region_plain (S := fun w' => BoxAt w' n8 #[.slice B.lA B.lots.length B.lCap, .int .i64 B.tlo, .int .i64 B.thi, .int .i64 B.thick, .int .i64 B.crack, .int .i64 B.glo, .int .i64 B.ghi, .slice B.sA B.thins.length B.sCap, .int .i64 B.hot, .int .i64 B.least, .int .i64 B.clo, .int .i64 B.chi, .int .i64 B.coal, .slice B.kA B.looks.length B.kCap] ∧ Below w3.heap.size w3 w') 15 (by kernel_rfl) ?_ (fun hHeld => ?_)
      · exact ⟨K8.out.below ((Below.refl _ _).drew), (Below.refl _ _).drew⟩
      first | (refine anyT_take 0 (some 23) (v := ?_) rfl rfl (by kernel_rfl) (by kernel_rfl) (by kernel_rfl) (by kernel_rfl) (fun _ _ _ h => h) (Or.inl ⟨by rfl, ?_⟩) hHeld ?_; rotate_left; focus (intro wq hSw; obtain ⟨⟨c8, f8, l8⟩, _⟩ := hSw; go_simp; (try with_reducible rfl); done))
      (try simp only [Act.put, List.setIfInBounds_toArray, List.set_cons_zero, List.set_cons_succ])
      first | (refine anyT_take 1 (some 24) (v := ?_) rfl rfl (by kernel_rfl) (by kernel_rfl) (by kernel_rfl) (by kernel_rfl) (fun _ _ _ h => h) (Or.inl ⟨by rfl, ?_⟩) hHeld ?_; rotate_left; focus (intro wq hSw; obtain ⟨⟨c8, f8, l8⟩, _⟩ := hSw; go_simp; (try with_reducible rfl); done))
      (try simp only [Act.put, List.setIfInBounds_toArray, List.set_cons_zero, List.set_cons_succ])
      first | (refine anyT_take 2 (some 25) (v := ?_) rfl rfl (by kernel_rfl) (by kernel_rfl) (by kernel_rfl) (by kernel_rfl) (fun _ _ _ h => h) (Or.inl ⟨by rfl, ?_⟩) hHeld ?_; rotate_left; focus (intro wq hSw; obtain ⟨⟨c8, f8, l8⟩, _⟩ := hSw; go_simp; (try with_reducible rfl); done))
      (try simp only [Act.put, List.setIfInBounds_toArray, List.set_cons_zero, List.set_cons_succ])
      first | (refine anyT_take 3 (some 26) (v := ?_) rfl rfl (by kernel_rfl) (by kernel_rfl) (by kernel_rfl) (by kernel_rfl) (fun _ _ _ h => h) (Or.inl ⟨by rfl, ?_⟩) hHeld ?_; rotate_left; focus (intro wq hSw; obtain ⟨⟨c8, f8, l8⟩, _⟩ := hSw; go_simp; (try with_reducible rfl); done))
      (try simp only [Act.put, List.setIfInBounds_toArray, List.set_cons_zero, List.set_cons_succ])
      first | (refine anyT_take 4 (some 27) (v := ?_) rfl rfl (by kernel_rfl) (by kernel_rfl) (by kernel_rfl) (by kernel_rfl) (fun _ _ _ h => h) (Or.inl ⟨by rfl, ?_⟩) hHeld ?_; rotate_left; focus (intro wq hSw; obtain ⟨⟨c8, f8, l8⟩, _⟩ := hSw; go_simp; (try with_reducible rfl); done))
      (try simp only [Act.put, List.setIfInBounds_toArray, List.set_cons_zero, List.set_cons_succ])
      first | (refine anyT_take 5 (some 28) (v := ?_) rfl rfl (by kernel_rfl) (by kernel_rfl) (by kernel_rfl) (by kernel_rfl) (fun _ _ _ h => h) (Or.inl ⟨by rfl, ?_⟩) hHeld ?_; rotate_left; focus (intro wq hSw; obtain ⟨⟨c8, f8, l8⟩, _⟩ := hSw; go_simp; (try with_reducible rfl); done))
      (try simp only [Act.put, List.setIfInBounds_toArray, List.set_cons_zero, List.set_cons_succ])
      first | (refine anyT_take 7 (some 30) (v := ?_) rfl rfl (by kernel_rfl) (by kernel_rfl) (by kernel_rfl) (by kernel_rfl) (fun _ _ _ h => h) (Or.inl ⟨by rfl, ?_⟩) hHeld ?_; rotate_left; focus (intro wq hSw; obtain ⟨⟨c8, f8, l8⟩, _⟩ := hSw; go_simp; (try with_reducible rfl); done))
      (try simp only [Act.put, List.setIfInBounds_toArray, List.set_cons_zero, List.set_cons_succ])
      first | (refine anyT_take 8 (some 31) (v := ?_) rfl rfl (by kernel_rfl) (by kernel_rfl) (by kernel_rfl) (by kernel_rfl) (fun _ _ _ h => h) (Or.inl ⟨by rfl, ?_⟩) hHeld ?_; rotate_left; focus (intro wq hSw; obtain ⟨⟨c8, f8, l8⟩, _⟩ := hSw; go_simp; (try with_reducible rfl); done))
      (try simp only [Act.put, List.setIfInBounds_toArray, List.set_cons_zero, List.set_cons_succ])
      first | (refine anyT_take 9 (some 32) (v := ?_) rfl rfl (by kernel_rfl) (by kernel_rfl) (by kernel_rfl) (by kernel_rfl) (fun _ _ _ h => h) (Or.inl ⟨by rfl, ?_⟩) hHeld ?_; rotate_left; focus (intro wq hSw; obtain ⟨⟨c8, f8, l8⟩, _⟩ := hSw; go_simp; (try with_reducible rfl); done))
      (try simp only [Act.put, List.setIfInBounds_toArray, List.set_cons_zero, List.set_cons_succ])
      first | (refine anyT_take 10 (some 33) (v := ?_) rfl rfl (by kernel_rfl) (by kernel_rfl) (by kernel_rfl) (by kernel_rfl) (fun _ _ _ h => h) (Or.inl ⟨by rfl, ?_⟩) hHeld ?_; rotate_left; focus (intro wq hSw; obtain ⟨⟨c8, f8, l8⟩, _⟩ := hSw; go_simp; (try with_reducible rfl); done))
      (try simp only [Act.put, List.setIfInBounds_toArray, List.set_cons_zero, List.set_cons_succ])
      first | (refine anyT_take 11 (some 34) (v := ?_) rfl rfl (by kernel_rfl) (by kernel_rfl) (by kernel_rfl) (by kernel_rfl) (fun _ _ _ h => h) (Or.inl ⟨by rfl, ?_⟩) hHeld ?_; rotate_left; focus (intro wq hSw; obtain ⟨⟨c8, f8, l8⟩, _⟩ := hSw; go_simp; (try with_reducible rfl); done))
      (try simp only [Act.put, List.setIfInBounds_toArray, List.set_cons_zero, List.set_cons_succ])
      first | (refine anyT_take 12 (some 35) (v := ?_) rfl rfl (by kernel_rfl) (by kernel_rfl) (by kernel_rfl) (by kernel_rfl) (fun _ _ _ h => h) (Or.inl ⟨by rfl, ?_⟩) hHeld ?_; rotate_left; focus (intro wq hSw; obtain ⟨⟨c8, f8, l8⟩, _⟩ := hSw; go_simp; (try with_reducible rfl); done))
      (try simp only [Act.put, List.setIfInBounds_toArray, List.set_cons_zero, List.set_cons_succ])
      refine anyT_one 6 (by kernel_rfl) rfl (fun K hK => ?_)
      go_simp
      refine (eq0_3 (v' := B.val) (by unfold ForgeV.val ForgeV.cells; rfl) (heats_calls B Hg.out n B.clo Hn.out hc1.out _)).mono ?_; rintro e w5 ⟨rfl, hb5⟩; rw [hl.out]
      refine hK.out _ _ ?_ (fun hHeld => ?_)
      · exact ⟨hHeld.1.below hb5, below_then hHeld.2 hHeld.2.size hb5⟩
      clear hK K
      (try simp only [Act.put, List.setIfInBounds_toArray, List.set_cons_zero, List.set_cons_succ])
      refine anyT_one 13 (by kernel_rfl) rfl (fun K hK => ?_)
      go_simp
      refine (eq0_3 (v' := B.val) (by unfold ForgeV.val ForgeV.cells; rfl) (heats_calls B Hg.out n B.chi Hn.out hc2.out _)).mono ?_; rintro e w6 ⟨rfl, hb6⟩; rw [hh.out]
      refine hK.out _ _ ?_ (fun hHeld => ?_)
      · exact ⟨hHeld.1.below hb6, below_then hHeld.2 hHeld.2.size hb6⟩
      clear hK K
      (try simp only [Act.put, List.setIfInBounds_toArray, List.set_cons_zero, List.set_cons_succ])
      first | (refine anyT_take 14 (some 37) (v := ?_) rfl rfl (by kernel_rfl) (by kernel_rfl) (by kernel_rfl) (by kernel_rfl) (fun _ _ _ h => h) (Or.inl ⟨by rfl, ?_⟩) hHeld ?_; rotate_left; focus (intro wq hSw; obtain ⟨⟨c8, f8, l8⟩, _⟩ := hSw; go_simp; (try with_reducible rfl); done))
      (try simp only [Act.put, List.setIfInBounds_toArray, List.set_cons_zero, List.set_cons_succ])
      refine anyT_last (by kernel_rfl) rfl (fun K hK => ?_)
      have k4 := K4.out.below hHeld.2; have hs := box_store2 k4 rfl (.int .i64 (hLo B n)) (.int .i64 (hHi B n)); have Hs := Lib.hid hs; have Hh := Lib.hid hHeld; obtain ⟨c4, f4, l4⟩ := k4; clear hs hHeld
      go_simp
      refine hK.out _ _ ?_
      clear hK K
      (try simp only [Act.put, List.setIfInBounds_toArray, List.set_cons_zero, List.set_cons_succ])
      refine anyT_done (by kernel_rfl) ?_ _
      have H9 := Lib.hid ((below_then H3.out H3.out.size Hh.out.2).trans (Hs.out.2 w.heap.size hnn.2.1))
      have hk4 : Keep (fun k => k = n4) w6 ((w6.setCell ⟨n4, 0, none⟩ (.int .i64 (hLo B n))).setCell ⟨n4, 1, none⟩ (.int .i64 (hHi B n))) := Keep.setCell (M := fun k => k = n4) (Keep.setCell (M := fun k => k = n4) (Keep.refl _ _) (p := ⟨n4, 0, none⟩) (.inl rfl) _) (p := ⟨n4, 1, none⟩) (.inl rfl) _
      have K49 := Lib.hid Hs.out.1
      have K59 := Lib.hid ((K5.out.below Hh.out.2).keep hk4 (by omega))
      have K89 := Lib.hid (Hh.out.1.keep hk4 (by omega))
      clear hk4 hb5 hb6 c4 f4 l4
      generalize (w6.setCell _ _).setCell _ _ = w9 at *
      clear Hs Hh
      go_upto_region 8 with (fail)
      refine region_plain (S := fun w' => BoxAt w' n4 #[.int .i64 (hLo B n), .int .i64 (hHi B n)] ∧ (∃ x y, BoxAt w' n5 #[x, y]) ∧ BoxAt w' n8 #[.slice B.lA B.lots.length B.lCap, .int .i64 B.tlo, .int .i64 B.thi, .int .i64 B.thick, .int .i64 B.crack, .int .i64 B.glo, .int .i64 B.ghi, .slice B.sA B.thins.length B.sCap, .int .i64 B.hot, .int .i64 B.least, .int .i64 B.clo, .int .i64 B.chi, .int .i64 B.coal, .slice B.kA B.looks.length B.kCap] ∧ Below w.heap.size w w') 17 (by kernel_rfl) ?_ (fun hHeld => ?_)
      · exact ⟨K49.out.below ((Below.refl _ _).drew), ⟨_, _, K59.out.below ((Below.refl _ _).drew)⟩, K89.out.below ((Below.refl _ _).drew), H9.out.drew⟩
      generalize World.drew w9 = Wd at *
      first | (refine anyT_take 0 (some 38) (v := ?_) rfl rfl (by kernel_rfl) (by kernel_rfl) (by kernel_rfl) (by kernel_rfl) (fun _ _ _ h => h) (Or.inl ⟨by rfl, ?_⟩) hHeld ?_; rotate_left; focus (intro wq hSw; obtain ⟨⟨c4, f4, l4⟩, _, ⟨c8, f8, l8⟩, _⟩ := hSw; go_simp; (try with_reducible rfl); done))
      (try simp only [Act.put, List.setIfInBounds_toArray, List.set_cons_zero, List.set_cons_succ])
      first | (refine anyT_take 1 (some 39) (v := ?_) rfl rfl (by kernel_rfl) (by kernel_rfl) (by kernel_rfl) (by kernel_rfl) (fun _ _ _ h => h) (Or.inl ⟨by rfl, ?_⟩) hHeld ?_; rotate_left; focus (intro wq hSw; obtain ⟨⟨c4, f4, l4⟩, _, ⟨c8, f8, l8⟩, _⟩ := hSw; go_simp; (try with_reducible rfl); done))
      (try simp only [Act.put, List.setIfInBounds_toArray, List.set_cons_zero, List.set_cons_succ])
      first | (refine anyT_take 2 (some 40) (v := ?_) rfl rfl (by kernel_rfl) (by kernel_rfl) (by kernel_rfl) (by kernel_rfl) (fun _ _ _ h => h) (Or.inl ⟨by rfl, ?_⟩) hHeld ?_; rotate_left; focus (intro wq hSw; obtain ⟨⟨c4, f4, l4⟩, _, ⟨c8, f8, l8⟩, _⟩ := hSw; go_simp; (try with_reducible rfl); done))
      (try simp only [Act.put, List.setIfInBounds_toArray, List.set_cons_zero, List.set_cons_succ])
      first | (refine anyT_take 3 (some 41) (v := ?_) rfl rfl (by kernel_rfl) (by kernel_rfl) (by kernel_rfl) (by kernel_rfl) (fun _ _ _ h => h) (Or.inl ⟨by rfl, ?_⟩) hHeld ?_; rotate_left; focus (intro wq hSw; obtain ⟨⟨c4, f4, l4⟩, _, ⟨c8, f8, l8⟩, _⟩ := hSw; go_simp; (try with_reducible rfl); done))
      (try simp only [Act.put, List.setIfInBounds_toArray, List.set_cons_zero, List.set_cons_succ])
      first | (refine anyT_take 4 (some 42) (v := ?_) rfl rfl (by kernel_rfl) (by kernel_rfl) (by kernel_rfl) (by kernel_rfl) (fun _ _ _ h => h) (Or.inl ⟨by rfl, ?_⟩) hHeld ?_; rotate_left; focus (intro wq hSw; obtain ⟨⟨c4, f4, l4⟩, _, ⟨c8, f8, l8⟩, _⟩ := hSw; go_simp; (try with_reducible rfl); done))
      (try simp only [Act.put, List.setIfInBounds_toArray, List.set_cons_zero, List.set_cons_succ])
      first | (refine anyT_take 5 (some 43) (v := ?_) rfl rfl (by kernel_rfl) (by kernel_rfl) (by kernel_rfl) (by kernel_rfl) (fun _ _ _ h => h) (Or.inl ⟨by rfl, ?_⟩) hHeld ?_; rotate_left; focus (intro wq hSw; obtain ⟨⟨c4, f4, l4⟩, _, ⟨c8, f8, l8⟩, _⟩ := hSw; go_simp; (try with_reducible rfl); done))
      (try simp only [Act.put, List.setIfInBounds_toArray, List.set_cons_zero, List.set_cons_succ])
      first | (refine anyT_take 6 (some 44) (v := ?_) rfl rfl (by kernel_rfl) (by kernel_rfl) (by kernel_rfl) (by kernel_rfl) (fun _ _ _ h => h) (Or.inl ⟨by rfl, ?_⟩) hHeld ?_; rotate_left; focus (intro wq hSw; obtain ⟨⟨c4, f4, l4⟩, _, ⟨c8, f8, l8⟩, _⟩ := hSw; go_simp; (try with_reducible rfl); done))
      (try simp only [Act.put, List.setIfInBounds_toArray, List.set_cons_zero, List.set_cons_succ])
      first | (refine anyT_take 7 (some 45) (v := ?_) rfl rfl (by kernel_rfl) (by kernel_rfl) (by kernel_rfl) (by kernel_rfl) (fun _ _ _ h => h) (Or.inl ⟨by rfl, ?_⟩) hHeld ?_; rotate_left; focus (intro wq hSw; obtain ⟨⟨c4, f4, l4⟩, _, ⟨c8, f8, l8⟩, _⟩ := hSw; go_simp; (try with_reducible rfl); done))
      (try simp only [Act.put, List.setIfInBounds_toArray, List.set_cons_zero, List.set_cons_succ])
      first | (refine anyT_take 8 (some 46) (v := ?_) rfl rfl (by kernel_rfl) (by kernel_rfl) (by kernel_rfl) (by kernel_rfl) (fun _ _ _ h => h) (Or.inl ⟨by rfl, ?_⟩) hHeld ?_; rotate_left; focus (intro wq hSw; obtain ⟨⟨c4, f4, l4⟩, _, ⟨c8, f8, l8⟩, _⟩ := hSw; go_simp; (try with_reducible rfl); done))
      (try simp only [Act.put, List.setIfInBounds_toArray, List.set_cons_zero, List.set_cons_succ])
      first | (refine anyT_take 9 (some 47) (v := ?_) rfl rfl (by kernel_rfl) (by kernel_rfl) (by kernel_rfl) (by kernel_rfl) (fun _ _ _ h => h) (Or.inl ⟨by rfl, ?_⟩) hHeld ?_; rotate_left; focus (intro wq hSw; obtain ⟨⟨c4, f4, l4⟩, _, ⟨c8, f8, l8⟩, _⟩ := hSw; go_simp; (try with_reducible rfl); done))
      (try simp only [Act.put, List.setIfInBounds_toArray, List.set_cons_zero, List.set_cons_succ])
      first | (refine anyT_take 10 (some 48) (v := ?_) rfl rfl (by kernel_rfl) (by kernel_rfl) (by kernel_rfl) (by kernel_rfl) (fun _ _ _ h => h) (Or.inl ⟨by rfl, ?_⟩) hHeld ?_; rotate_left; focus (intro wq hSw; obtain ⟨⟨c4, f4, l4⟩, _, ⟨c8, f8, l8⟩, _⟩ := hSw; go_simp; (try with_reducible rfl); done))
      (try simp only [Act.put, List.setIfInBounds_toArray, List.set_cons_zero, List.set_cons_succ])
      first | (refine anyT_take 11 (some 49) (v := ?_) rfl rfl (by kernel_rfl) (by kernel_rfl) (by kernel_rfl) (by kernel_rfl) (fun _ _ _ h => h) (Or.inl ⟨by rfl, ?_⟩) hHeld ?_; rotate_left; focus (intro wq hSw; obtain ⟨⟨c4, f4, l4⟩, _, ⟨c8, f8, l8⟩, _⟩ := hSw; go_simp; (try with_reducible rfl); done))
      (try simp only [Act.put, List.setIfInBounds_toArray, List.set_cons_zero, List.set_cons_succ])
      first | (refine anyT_take 12 (some 50) (v := ?_) rfl rfl (by kernel_rfl) (by kernel_rfl) (by kernel_rfl) (by kernel_rfl) (fun _ _ _ h => h) (Or.inl ⟨by rfl, ?_⟩) hHeld ?_; rotate_left; focus (intro wq hSw; obtain ⟨⟨c4, f4, l4⟩, _, ⟨c8, f8, l8⟩, _⟩ := hSw; go_simp; (try with_reducible rfl); done))
      (try simp only [Act.put, List.setIfInBounds_toArray, List.set_cons_zero, List.set_cons_succ])
      first | (refine anyT_take 13 (some 51) (v := ?_) rfl rfl (by kernel_rfl) (by kernel_rfl) (by kernel_rfl) (by kernel_rfl) (fun _ _ _ h => h) (Or.inl ⟨by rfl, ?_⟩) hHeld ?_; rotate_left; focus (intro wq hSw; obtain ⟨⟨c4, f4, l4⟩, _, ⟨c8, f8, l8⟩, _⟩ := hSw; go_simp; (try with_reducible rfl); done))
      (try simp only [Act.put, List.setIfInBounds_toArray, List.set_cons_zero, List.set_cons_succ])
      refine anyT_one 14 (by kernel_rfl) rfl (fun K hK => ?_)
      obtain ⟨h4, ⟨x5, y5, h5⟩, h8, hw⟩ := hHeld; have hs := box_store2 h4 rfl (.int .i64 (hLo B n)) (.int .i64 (hHi B n)); have hS := And.intro hs.1 (And.intro (⟨x5, y5, box2_keep h5 (Ne.symm hnn.1) (.int .i64 (hLo B n)) (.int .i64 (hHi B n))⟩ : ∃ x y, BoxAt _ n5 #[x, y]) (And.intro (box2_keep h8 (Ne.symm hn8.1) (.int .i64 (hLo B n)) (.int .i64 (hHi B n))) (hw.trans (hs.2 w.heap.size hnn.2.1)))); clear hs h5 h8 hw; obtain ⟨c4, f4, l4⟩ := h4
      go_simp
      refine hK.out _ _ ?_ (fun hHeld => ?_)
      · exact hS
      clear hK K
      (try simp only [Act.put, List.setIfInBounds_toArray, List.set_cons_zero, List.set_cons_succ])
      refine anyT_one 15 (by kernel_rfl) rfl (fun K hK => ?_)
      clear hS; obtain ⟨h4, ⟨x5', y5', h5⟩, h8, hw⟩ := hHeld; have hs := box_store2 h5 rfl (.int .i64 (hLo B n * B.coal)) (.int .i64 (hHi B n * B.coal)); have k59 := hs.1; have hS := And.intro (box2_keep h4 hnn.1 (.int .i64 (hLo B n * B.coal)) (.int .i64 (hHi B n * B.coal))) (And.intro (⟨_, _, hs.1⟩ : ∃ x y, BoxAt _ n5 #[x, y]) (And.intro (box2_keep h8 (Ne.symm hn8.2.1) (.int .i64 (hLo B n * B.coal)) (.int .i64 (hHi B n * B.coal))) (hw.trans (hs.2 w.heap.size hnn.2.2)))); clear hs h4 h8 hw; obtain ⟨c5, f5, l5⟩ := h5
      go_simp
      refine hK.out _ _ ?_ (fun hHeld => ?_)
      · exact hS
      clear hK K
      (try simp only [Act.put, List.setIfInBounds_toArray, List.set_cons_zero, List.set_cons_succ])
      first | (refine anyT_take 16 (some 6) (v := ?_) rfl rfl (by kernel_rfl) (by kernel_rfl) (by kernel_rfl) (by kernel_rfl) (fun _ _ _ h => h) (Or.inl ⟨by rfl, ?_⟩) hHeld ?_; rotate_left; focus (intro wq hSw; obtain ⟨⟨c4, f4, l4⟩, _, ⟨c8, f8, l8⟩, _⟩ := hSw; go_simp; (try with_reducible rfl); done))
      (try simp only [Act.put, List.setIfInBounds_toArray, List.set_cons_zero, List.set_cons_succ])
      refine anyT_done (by kernel_rfl) ?_ _
      go_wp2
      exact heats_end hHeld.1 k59 rfl rfl rfl rfl hz.out hHeld.2.2.2
end
end Go.Proofs.YtgfbfbfajnfbjaaDoor
