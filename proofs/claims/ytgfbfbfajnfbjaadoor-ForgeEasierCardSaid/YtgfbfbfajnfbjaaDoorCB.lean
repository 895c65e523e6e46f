/- PROVED: ForgeEasier (the walk): the law returns true, whatever the book and the numbers. -/
import Derived.Test.YtgfbfbfajnfbjaaDoorCA
namespace Go.Proofs.YtgfbfbfajnfbjaaDoor
section
open Go.RowKit Go.Shelf
attribute [local go_sem] Oper.semAt_some
set_option linter.unusedSimpArgs false
set_option linter.unusedVariables false
set_option maxRecDepth 100000 in
set_option maxHeartbeats 8000000 in
theorem ForgeEasier_calls (B : ForgeV) (A' : Option Addr) (c' : Nat) (bits : List Int) (n0 n1 n2 : Int) (w : World) (hB : B.Reads w) (hp : IntsAt w A' bits) (hM : EndsAt w) :
    Calls Tryd.prog 10 #[B.val, .slice A' bits.length c', .agg #[.int .i64 n0, .int .i64 n1, .int .i64 n2]] w fun e w' => e = .returned (.bool true) ∧ Below w.heap.size w w' := by
  have HB0 := Lib.hid hB
  have HM0 := Lib.hid hM
  have Hp0 := Lib.hid hp
  clear hB hM hp
  have hcells : B.val = .agg B.cells := rfl
  rw [hcells]
  unfold ForgeV.cells
  go_enter Tryd.func10, Tryd.ntmps10
  go_upto_region 1 with fail
  have k3 := (BoxAt.new w B.cells 28).alloc (.cells #[.int .i64 n0, .int .i64 n1, .int .i64 n2] 66)
  have k5 := BoxAt.new (w.alloc (.cells B.cells 28)) #[.int .i64 n0, .int .i64 n1, .int .i64 n2] 66
  have H1 : Below w.heap.size w ((w.alloc (.cells B.cells 28)).alloc (.cells #[.int .i64 n0, .int .i64 n1, .int .i64 n2] 66)) := ((Below.refl _ _).alloc (Nat.le_refl _) _).alloc (by simp) _
  unfold ForgeV.cells at k3 k5 H1
  simp only [World.size_alloc] at k5
  generalize World.alloc (World.alloc w _) _ = w1 at *
  have hn5 : w.heap.size < w.heap.size + 1 := Nat.lt_succ_self _
  generalize w.heap.size + 1 = n5 at *
  have H2 := Lib.hid H1
  have K3 := Lib.hid k3
  have K5 := Lib.hid k5
  obtain ⟨c3, f3, l3⟩ := k3
  clear k5 H1
  go_wp2_with fail
  refine (eq0_1 (v' := B.val) (by unfold ForgeV.val ForgeV.cells; rfl) (sound_calls B _ (HB0.out.below H2.out))).mono ?_
  rintro e w2 ⟨rfl, hb⟩
  clear c3 f3 l3
  replace K3 := Lib.hid (K3.out.below hb)
  replace K5 := Lib.hid (K5.out.below hb)
  replace H2 := Lib.hid (below_then H2.out H2.out.size hb)
  clear hb
  cases hg : goodF B with
  | false =>
    go_wp2_with fail
    refine (works_calls _ (HM0.out.below H2.out)).mono ?_
    rintro e w3 ⟨rfl, hb⟩
    go_wp2
    go_ret
    exact ⟨rfl, below_then H2.out H2.out.size hb⟩
  | true =>
    have Hg := Lib.hid ((goodF_iff B).1 hg)
    clear hg
    obtain ⟨c3, f3, l3⟩ := K3.out
    go_wp2_with fail
    refine (eq0_2 (v' := B.val) (by unfold ForgeV.val ForgeV.cells; rfl) (taken_calls B Hg.out A' c' bits _ (HB0.out.below H2.out) (Hp0.out.below H2.out))).mono ?_
    rintro e w3 ⟨⟨A7, c7, rfl, hl7⟩, hb⟩
    generalize takenTo B bits B.lots.length = V at *
    clear c3 f3 l3
    replace K3 := Lib.hid (K3.out.below hb)
    replace K5 := Lib.hid (K5.out.below hb)
    replace H2 := Lib.hid (below_then H2.out H2.out.size hb)
    have Hl7 := Lib.hid hl7
    clear hb hl7
    obtain ⟨c3, f3, l3⟩ := K3.out
    go_wp2_with fail
    refine (eq0_2 (v' := B.val) (by unfold ForgeV.val ForgeV.cells; rfl) (IsMelt_calls B A7 c7 V _ (HB0.out.below H2.out) Hl7.out (HM0.out.below H2.out))).mono ?_
    rintro e w5 ⟨rfl, hb⟩
    rw [isMelt_good Hg.out]
    generalize hWas : (withinS B V && rightS B V) = was at *
    have HWas := Lib.hid hWas
    clear c3 f3 l3 hWas
    replace K3 := Lib.hid (K3.out.below hb)
    replace K5 := Lib.hid (K5.out.below hb)
    have H5 := Lib.hid (below_then H2.out H2.out.size hb)
    replace Hl7 := Lib.hid (Hl7.out.below hb)
    clear hb
    obtain ⟨lb, lo, hlA⟩ := HB0.out.lots.some_ (by have := Hg.out.many; omega)
    have hlts := HB0.out.lots
    rw [hlA] at hlts
    have HlA := Lib.hid hlA
    have k3x := K3.out
    rw [hlA] at k3x
    have K3k := Lib.hid k3x
    clear hlA k3x
    obtain ⟨c3, f3, l3⟩ := K3k.out
    go_upto_region 6 with (fail)
    try rw [HlA.out]
    have hb : Below w5.heap.size w5 (w5.alloc (.cells B.cells 28)) := (Below.refl _ _).alloc (Nat.le_refl _) _
    have k10 := BoxAt.new w5 B.cells 28
    unfold ForgeV.cells at hb k10
    rw [HlA.out] at hb k10
    generalize World.alloc w5 _ = wa at *
    have hn10 := H5.out.size
    have h310 := K3.out.lt
    have h510 := K5.out.lt
    have Hba := Lib.hid hb
    have Hwa := Lib.hid (below_then H5.out H5.out.size hb)
    have K3a := Lib.hid (K3k.out.below hb)
    have K5a := Lib.hid (K5.out.below hb)
    generalize hne : w5.heap.size = n10 at *
    have Hne := Lib.hid hne
    have K10 := Lib.hid k10
    have h10 := k10.lt
    clear hb c3 f3 l3 k10 hne
    obtain ⟨c3, f3, l3⟩ := K3a.out
    have hb1 : Below wa.heap.size wa (wa.alloc (.cells #[] 62)) := (Below.refl _ _).alloc (Nat.le_refl _) _
    have hlk1 := (hlts.below Hwa.out).below hb1
    go_wp2_with (at_builtin; refine wpList_copyLots _ rfl _ _ rfl wa rfl rfl (some ⟨lb, lo, none⟩) B.lCap B.lots rfl hlk1 (by have := Hg.out.many; omega) (by have := Hg.out.many; omega) ?_)
    rintro g c8 cur w6 kg hll hgb hb6
    have k10 := K10.out.below hb6
    have h9 := hb6.size
    clear hb1 hlk1 c3 f3 l3
    obtain ⟨c10, f10, l10⟩ := k10
    go_upto_region 7 with (fail)
    have hk3 : Keep (fun q => q = n10) w6 (w6.setCell ⟨n10, 0, none⟩ (.slice (some ⟨g, 0, none⟩) B.lots.length c8)) := Keep.setCell (M := fun q => q = n10) (Keep.refl _ _) (p := ⟨n10, 0, none⟩) (.inl rfl) _
    have Hlo7 := Lib.hid (Hba.out.trans ((hb6.mono (by omega)).trans (hk3.below (n := n10) (fun q _ e => by omega) (by omega))))
    have K3b := Lib.hid ((K3a.out.below hb6).keep hk3 (by omega))
    have K5b := Lib.hid ((K5a.out.below hb6).keep hk3 (by omega))
    have k10 : BoxAt (w6.setCell ⟨n10, 0, none⟩ (.slice (some ⟨g, 0, none⟩) B.lots.length c8)) n10 #[.slice (some ⟨g, 0, none⟩) B.lots.length c8, .int .i64 B.tlo, .int .i64 B.thi, .int .i64 B.thick, .int .i64 B.crack, .int .i64 B.glo, .int .i64 B.ghi, .slice B.sA B.thins.length B.sCap, .int .i64 B.hot, .int .i64 B.least, .int .i64 B.clo, .int .i64 B.chi, .int .i64 B.coal, .slice B.kA B.looks.length B.kCap] := (K10.out.below hb6).put 0 (.slice (some ⟨g, 0, none⟩) B.lots.length c8) (by simp)
    replace K10 := Lib.hid k10
    have Kg := Lib.hid (kg.keep hk3 (by omega))
    have Hll := Lib.hid (hll.keep hk3 (fun b o e => by cases e; omega))
    clear hk3 k10 kg hll hb6 c10 f10 l10 K3a K5a Hba
    generalize World.setCell w6 _ _ = w7 at *
    obtain ⟨c3, f3, l3⟩ := K3b.out
    obtain ⟨c5, f5, l5⟩ := K5b.out
    have hmany := Hg.out.many
    refine region_plain (S := fun w' => Below w7.heap.size w7 w') 11 (by kernel_rfl) ?_ (fun hHeld => ?_)
    · exact (Below.refl _ _).drew
    first | (refine anyT_take 0 (some 36) (v := ?_) rfl rfl (by kernel_rfl) (by kernel_rfl) (by kernel_rfl) (by kernel_rfl) (fun _ _ _ h => h) (Or.inl ⟨by rfl, ?_⟩) hHeld ?_; rotate_left; focus (intro wq hSw; obtain ⟨hcq, hfq⟩ := bcell hSw; go_simp; (try with_reducible rfl); done))
    (try simp only [Act.put, List.setIfInBounds_toArray, List.set_cons_zero, List.set_cons_succ])
    first | (refine anyT_take 1 (some 37) (v := ?_) rfl rfl (by kernel_rfl) (by kernel_rfl) (by kernel_rfl) (by kernel_rfl) (fun _ _ _ h => h) (Or.inl ⟨by rfl, ?_⟩) hHeld ?_; rotate_left; focus (intro wq hSw; obtain ⟨hcq, hfq⟩ := bcell hSw; go_simp; (try with_reducible rfl); done))
    (try simp only [Act.put, List.setIfInBounds_toArray, List.set_cons_zero, List.set_cons_succ])
    first | (refine anyT_take 2 (some 38) (v := ?_) rfl rfl (by kernel_rfl) (by kernel_rfl) (by kernel_rfl) (by kernel_rfl) (fun _ _ _ h => h) (Or.inl ⟨by rfl, ?_⟩) hHeld ?_; rotate_left; focus (intro wq hSw; obtain ⟨hcq, hfq⟩ := bcell hSw; go_simp; (try with_reducible rfl); done))
    (try simp only [Act.put, List.setIfInBounds_toArray, List.set_cons_zero, List.set_cons_succ])
    first | (refine anyT_take 3 (some 39) (v := ?_) rfl rfl (by kernel_rfl) (by kernel_rfl) (by kernel_rfl) (by kernel_rfl) (fun _ _ _ h => h) (Or.inl ⟨by rfl, ?_⟩) hHeld ?_; rotate_left; focus (intro wq hSw; obtain ⟨hcq, hfq⟩ := bcell hSw; go_simp; (try with_reducible rfl); done))
    (try simp only [Act.put, List.setIfInBounds_toArray, List.set_cons_zero, List.set_cons_succ])
    first | (refine anyT_take 4 (some 40) (v := ?_) rfl rfl (by kernel_rfl) (by kernel_rfl) (by kernel_rfl) (by kernel_rfl) (fun _ _ _ h => h) (Or.inl ⟨by rfl, ?_⟩) hHeld ?_; rotate_left; focus (intro wq hSw; obtain ⟨hcq, hfq⟩ := bcell hSw; go_simp; (try with_reducible rfl); done))
    (try simp only [Act.put, List.setIfInBounds_toArray, List.set_cons_zero, List.set_cons_succ])
    first | (refine anyT_take 6 (some 42) (v := ?_) rfl rfl (by kernel_rfl) (by kernel_rfl) (by kernel_rfl) (by kernel_rfl) (fun _ _ _ h => h) (Or.inl ⟨by rfl, ?_⟩) hHeld ?_; rotate_left; focus (intro wq hSw; obtain ⟨hcq, hfq⟩ := bcell hSw; go_simp; (try with_reducible rfl); done))
    (try simp only [Act.put, List.setIfInBounds_toArray, List.set_cons_zero, List.set_cons_succ])
    first | (refine anyT_take 7 (some 43) (v := ?_) rfl rfl (by kernel_rfl) (by kernel_rfl) (by kernel_rfl) (by kernel_rfl) (fun _ _ _ h => h) (Or.inl ⟨by rfl, ?_⟩) hHeld ?_; rotate_left; focus (intro wq hSw; obtain ⟨hcq, hfq⟩ := bcell hSw; go_simp; (try with_reducible rfl); done))
    (try simp only [Act.put, List.setIfInBounds_toArray, List.set_cons_zero, List.set_cons_succ])
    refine anyT_one 5 (by kernel_rfl) rfl (fun K hK => ?_)
    go_simp
    refine (Turn_calls _ _ _ (by omega)).mono ?_; rintro e x1 ⟨rfl, rfl⟩
    refine hK.out _ _ ?_ (fun hHeld => ?_)
    · exact hHeld
    clear hK K
    (try simp only [Act.put, List.setIfInBounds_toArray, List.set_cons_zero, List.set_cons_succ])
    refine anyT_one 8 (by kernel_rfl) rfl (fun K hK => ?_)
    go_simp
    refine (Turn_calls _ _ _ (by decide)).mono ?_; rintro e x2 ⟨rfl, rfl⟩
    refine hK.out _ _ ?_ (fun hHeld => ?_)
    · exact hHeld
    clear hK K
    (try simp only [Act.put, List.setIfInBounds_toArray, List.set_cons_zero, List.set_cons_succ])
    first | (refine anyT_take 9 (some 11) (v := ?_) rfl rfl (by kernel_rfl) (by kernel_rfl) (by kernel_rfl) (by kernel_rfl) (fun _ _ _ h => h) (Or.inl ⟨by rfl, ?_⟩) hHeld ?_; rotate_left; focus (intro wq hSw; obtain ⟨hcq, hfq⟩ := bcell hSw; go_simp; (try with_reducible rfl); done))
    (try simp only [Act.put, List.setIfInBounds_toArray, List.set_cons_zero, List.set_cons_succ])
    first | (refine anyT_take 10 (some 12) (v := ?_) rfl rfl (by kernel_rfl) (by kernel_rfl) (by kernel_rfl) (by kernel_rfl) (fun _ _ _ h => h) (Or.inl ⟨by rfl, ?_⟩) hHeld ?_; rotate_left; focus (intro wq hSw; obtain ⟨hcq, hfq⟩ := bcell hSw; go_simp; (try with_reducible rfl); done))
    (try simp only [Act.put, List.setIfInBounds_toArray, List.set_cons_zero, List.set_cons_succ])
    refine anyT_done (by kernel_rfl) ?_ _
    have hby := turnZ_bd (n := n2) (b := 30) (by decide)
    have htk := turnZ_bd (n := n1) (b := B.lots.length) (by omega)
    obtain ⟨k, hk⟩ : ∃ k : Nat, turnZ n1 B.lots.length = (k : Int) := ⟨(turnZ n1 B.lots.length).toNat, by omega⟩
    rw [hk] at htk ⊢
    have hkl : k < B.lots.length := by omega
    clear hk htk hmany
    generalize turnZ n2 30 = by_ at *
    generalize hwd : World.drew w7 = wb at *
    replace Hlo7 := Lib.hid (Hlo7.out.trans (hHeld.mono (by have := K10.out.lt; omega)))
    replace K10 := Lib.hid (K10.out.below hHeld)
    replace Kg := Lib.hid (Kg.out.below hHeld)
    replace Hll := Lib.hid (Hll.out.below hHeld)
    replace K3b := Lib.hid (K3b.out.below hHeld)
    replace K5b := Lib.hid (K5b.out.below hHeld)
    clear hHeld hwd c3 f3 l3 c5 f5 l5
    obtain ⟨c3, f3, l3⟩ := K3b.out
    obtain ⟨c5, f5, l5⟩ := K5b.out
    have hpc := hlts.at_ hkl
    have H7w := Lib.hid (H5.out.trans (Hlo7.out.mono hn10))
    have p0 := (H7w.out.cell (World.block_lt_of_cell? _ _ hpc.1)).trans hpc.1
    have p1 := (H7w.out.cell (World.block_lt_of_cell? _ _ hpc.2.1)).trans hpc.2.1
    have p2 := (H7w.out.cell (World.block_lt_of_cell? _ _ hpc.2.2)).trans hpc.2.2
    have pbl := World.block_lt_of_cell? _ _ p0
    simp only at pbl
    have hlg := Hg.out.lot k hkl
    clear hpc
    go_upto_region 9 with (fail)
    have hb : Below wb.heap.size wb (wb.alloc (.cells #[.int .i64 (gl B.lots k).bars, .int .i64 (gl B.lots k).lo, .int .i64 (gl B.lots k).hi] 62)) := (Below.refl _ _).alloc (Nat.le_refl _) _
    have k13 := BoxAt.new wb #[.int .i64 (gl B.lots k).bars, .int .i64 (gl B.lots k).lo, .int .i64 (gl B.lots k).hi] 62
    generalize World.alloc wb _ = w7 at *
    have hg13 := Kg.out.lt
    have h1013 := K10.out.lt
    replace Hlo7 := Lib.hid (Hlo7.out.trans (hb.mono (by omega)))
    replace K10 := Lib.hid (K10.out.below hb)
    replace Kg := Lib.hid (Kg.out.below hb)
    replace Hll := Lib.hid (Hll.out.below hb)
    replace K3b := Lib.hid (K3b.out.below hb)
    replace K5b := Lib.hid (K5b.out.below hb)
    generalize wb.heap.size = n13 at *
    have K13 := Lib.hid k13
    clear hb p0 p1 p2 pbl c3 f3 l3 c5 f5 l5 k13 hlts
    obtain ⟨c5, f5, l5⟩ := K5b.out
    have hwt := turnZ_bd (n := n0) (b := 3) (by decide)
    go_wp2_with fail
    refine (Turn_calls _ _ _ (by decide)).mono ?_
    rintro e x9 ⟨rfl, rfl⟩
    have hwc : turnZ n0 3 = 0 ∨ turnZ n0 3 = 1 ∨ turnZ n0 3 = 2 := by omega
    clear c5 f5 l5 hwt
    rcases hwc with hwc | hwc | hwc
    all_goals
      rw [hwc]
      clear hwc
    · obtain ⟨c3, f3, l3⟩ := K3b.out
      obtain ⟨c10, f10, l10⟩ := K10.out
      have htn := Hg.out.tin
      have hw1 : IntKind.i64.wrap (B.tlo - by_) = B.tlo - by_ := wrap_in (by omega) (by omega)
      have hw2 : IntKind.i64.wrap (B.thi + by_) = B.thi + by_ := wrap_in (by omega) (by omega)
      rcases Int.lt_or_le 0 (B.tlo - by_) with m1 | m1 <;> rcases Int.lt_or_le (B.thi + by_) 1000 with m2 | m2
      · as_aux_lemma =>
          go_upto_region 16 with (go_at_call 52; refine (Band_calls _ _ _).mono ?_; rintro e w8 ⟨rfl, hb⟩; have k10 := K10.out.below hb; have hlo8 := Hlo7.out.trans (hb.mono (by have := K10.out.lt; omega)); have hl8 := Hll.out.below hb; obtain ⟨c10, f10, l10⟩ := k10; clear hb)
          have hk3 : Keep (fun q => q = n10) w8 ((w8.setCell ⟨n10, 1, none⟩ (.int .i64 (B.tlo - by_))).setCell ⟨n10, 2, none⟩ (.int .i64 (B.thi + by_))) := Keep.setCell (M := fun q => q = n10) (Keep.setCell (M := fun q => q = n10) (Keep.refl _ _) (p := ⟨n10, 1, none⟩) (.inl rfl) _) (p := ⟨n10, 2, none⟩) (.inl rfl) _
          have hlo9 := hlo8.trans (hk3.below (n := n10) (fun q _ e => by omega) (by omega))
          have k10 : BoxAt w8 n10 #[.slice (some ⟨g, 0, none⟩) B.lots.length c8, .int .i64 B.tlo, .int .i64 B.thi, .int .i64 B.thick, .int .i64 B.crack, .int .i64 B.glo, .int .i64 B.ghi, .slice B.sA B.thins.length B.sCap, .int .i64 B.hot, .int .i64 B.least, .int .i64 B.clo, .int .i64 B.chi, .int .i64 B.coal, .slice B.kA B.looks.length B.kCap] := ⟨c10, f10, l10⟩
          have k11 : BoxAt ((w8.setCell ⟨n10, 1, none⟩ (.int .i64 (B.tlo - by_))).setCell ⟨n10, 2, none⟩ (.int .i64 (B.thi + by_))) n10 #[.slice (some ⟨g, 0, none⟩) B.lots.length c8, .int .i64 (B.tlo - by_), .int .i64 (B.thi + by_), .int .i64 B.thick, .int .i64 B.crack, .int .i64 B.glo, .int .i64 B.ghi, .slice B.sA B.thins.length B.sCap, .int .i64 B.hot, .int .i64 B.least, .int .i64 B.clo, .int .i64 B.chi, .int .i64 B.coal, .slice B.kA B.looks.length B.kCap] := (k10.put 1 (.int .i64 (B.tlo - by_)) (by simp)).put 2 (.int .i64 (B.thi + by_)) (by simp)
          have hlx := hl8.keep hk3 (fun b o e => by cases e; omega)
          have H9 := Lib.hid (H5.out.trans (hlo9.mono hn10))
          have Hl9 := Lib.hid (Hl7.out.below (show Below w5.heap.size w5 ((w8.setCell ⟨n10, 1, none⟩ (.int .i64 (B.tlo - by_))).setCell ⟨n10, 2, none⟩ (.int .i64 (B.thi + by_))) by rw [Hne.out]; exact hlo9))
          have hE := easy0 Hg.out (some ⟨g, 0, none⟩) c8 (lo := (B.tlo - by_)) (hi := (B.thi + by_)) (by have := Hg.out.tin; omega) (by have := Hg.out.tin; omega)
          have hX : (easyB B (some ⟨g, 0, none⟩) c8 B.lots (B.tlo - by_) (B.thi + by_)).Reads ((w8.setCell ⟨n10, 1, none⟩ (.int .i64 (B.tlo - by_))).setCell ⟨n10, 2, none⟩ (.int .i64 (B.thi + by_))) := by
            have h := HB0.out.below H9.out
            exact ⟨hlx, h.thins, h.looks⟩
          clear hk3 k10 c10 f10 l10 hlo8 hlo9 hl8 hlx
          generalize World.setCell (World.setCell w8 _ _) _ _ = w9 at *
          obtain ⟨c10, f10, l10⟩ := k11
          have HX := Lib.hid hX
          have gX := hE.1
          have hmt := fun h => easier_melt Hg.out gX hE.2 (m := V) h
          rw [HWas.out] at hmt
          clear hX hE
          have HMx := Lib.hid (HM0.out.below H9.out)
          go_wp2_with fail
          refine (eq0_2 (v' := (easyB B (some ⟨g, 0, none⟩) c8 B.lots (B.tlo - by_) (B.thi + by_)).val) (by unfold ForgeV.val; rw [easyB_cells] <;> simp only [List.length_set]) (IsMelt_calls (easyB B (some ⟨g, 0, none⟩) c8 B.lots (B.tlo - by_) (B.thi + by_)) A7 c7 V _ HX.out Hl9.out HMx.out)).mono ?_
          rintro e w12 ⟨rfl, hb⟩
          rw [isMelt_good gX]
          have H12 := Lib.hid (below_then H9.out H9.out.size hb)
          clear hb gX HX
          generalize (withinS (easyB B (some ⟨g, 0, none⟩) c8 B.lots (B.tlo - by_) (B.thi + by_)) V && rightS (easyB B (some ⟨g, 0, none⟩) c8 B.lots (B.tlo - by_) (B.thi + by_)) V) = is_ at *
          cases was with
          | false =>
            clear hmt
            go_wp2_with fail
            refine (works_calls _ (HM0.out.below H12.out)).mono ?_
            rintro e w13 ⟨rfl, hb⟩
            go_wp2
            go_ret
            exact ⟨rfl, below_then H12.out H12.out.size hb⟩
          | true =>
            have his := hmt rfl
            rw [his]
            clear hmt his
            go_wp2_with fail
            refine (works_calls _ (HM0.out.below H12.out)).mono ?_
            rintro e w13 ⟨rfl, hb⟩
            go_wp2
            go_ret
            exact ⟨rfl, below_then H12.out H12.out.size hb⟩

      · as_aux_lemma =>
          go_upto_region 16 with (go_at_call 52; refine (Band_calls _ _ _).mono ?_; rintro e w8 ⟨rfl, hb⟩; have k10 := K10.out.below hb; have hlo8 := Hlo7.out.trans (hb.mono (by have := K10.out.lt; omega)); have hl8 := Hll.out.below hb; obtain ⟨c10, f10, l10⟩ := k10; clear hb)
          have hk3 : Keep (fun q => q = n10) w8 ((w8.setCell ⟨n10, 1, none⟩ (.int .i64 (B.tlo - by_))).setCell ⟨n10, 2, none⟩ (.int .i64 1000)) := Keep.setCell (M := fun q => q = n10) (Keep.setCell (M := fun q => q = n10) (Keep.refl _ _) (p := ⟨n10, 1, none⟩) (.inl rfl) _) (p := ⟨n10, 2, none⟩) (.inl rfl) _
          have hlo9 := hlo8.trans (hk3.below (n := n10) (fun q _ e => by omega) (by omega))
          have k10 : BoxAt w8 n10 #[.slice (some ⟨g, 0, none⟩) B.lots.length c8, .int .i64 B.tlo, .int .i64 B.thi, .int .i64 B.thick, .int .i64 B.crack, .int .i64 B.glo, .int .i64 B.ghi, .slice B.sA B.thins.length B.sCap, .int .i64 B.hot, .int .i64 B.least, .int .i64 B.clo, .int .i64 B.chi, .int .i64 B.coal, .slice B.kA B.looks.length B.kCap] := ⟨c10, f10, l10⟩
          have k11 : BoxAt ((w8.setCell ⟨n10, 1, none⟩ (.int .i64 (B.tlo - by_))).setCell ⟨n10, 2, none⟩ (.int .i64 1000)) n10 #[.slice (some ⟨g, 0, none⟩) B.lots.length c8, .int .i64 (B.tlo - by_), .int .i64 1000, .int .i64 B.thick, .int .i64 B.crack, .int .i64 B.glo, .int .i64 B.ghi, .slice B.sA B.thins.length B.sCap, .int .i64 B.hot, .int .i64 B.least, .int .i64 B.clo, .int .i64 B.chi, .int .i64 B.coal, .slice B.kA B.looks.length B.kCap] := (k10.put 1 (.int .i64 (B.tlo - by_)) (by simp)).put 2 (.int .i64 1000) (by simp)
          have hlx := hl8.keep hk3 (fun b o e => by cases e; omega)
          have H9 := Lib.hid (H5.out.trans (hlo9.mono hn10))
          have Hl9 := Lib.hid (Hl7.out.below (show Below w5.heap.size w5 ((w8.setCell ⟨n10, 1, none⟩ (.int .i64 (B.tlo - by_))).setCell ⟨n10, 2, none⟩ (.int .i64 1000)) by rw [Hne.out]; exact hlo9))
          have hE := easy0 Hg.out (some ⟨g, 0, none⟩) c8 (lo := (B.tlo - by_)) (hi := 1000) (by have := Hg.out.tin; omega) (by have := Hg.out.tin; omega)
          have hX : (easyB B (some ⟨g, 0, none⟩) c8 B.lots (B.tlo - by_) 1000).Reads ((w8.setCell ⟨n10, 1, none⟩ (.int .i64 (B.tlo - by_))).setCell ⟨n10, 2, none⟩ (.int .i64 1000)) := by
            have h := HB0.out.below H9.out
            exact ⟨hlx, h.thins, h.looks⟩
          clear hk3 k10 c10 f10 l10 hlo8 hlo9 hl8 hlx
          generalize World.setCell (World.setCell w8 _ _) _ _ = w9 at *
          obtain ⟨c10, f10, l10⟩ := k11
          have HX := Lib.hid hX
          have gX := hE.1
          have hmt := fun h => easier_melt Hg.out gX hE.2 (m := V) h
          rw [HWas.out] at hmt
          clear hX hE
          have HMx := Lib.hid (HM0.out.below H9.out)
          go_wp2_with fail
          refine (eq0_2 (v' := (easyB B (some ⟨g, 0, none⟩) c8 B.lots (B.tlo - by_) 1000).val) (by unfold ForgeV.val; rw [easyB_cells] <;> simp only [List.length_set]) (IsMelt_calls (easyB B (some ⟨g, 0, none⟩) c8 B.lots (B.tlo - by_) 1000) A7 c7 V _ HX.out Hl9.out HMx.out)).mono ?_
          rintro e w12 ⟨rfl, hb⟩
          rw [isMelt_good gX]
          have H12 := Lib.hid (below_then H9.out H9.out.size hb)
          clear hb gX HX
          generalize (withinS (easyB B (some ⟨g, 0, none⟩) c8 B.lots (B.tlo - by_) 1000) V && rightS (easyB B (some ⟨g, 0, none⟩) c8 B.lots (B.tlo - by_) 1000) V) = is_ at *
          cases was with
          | false =>
            clear hmt
            go_wp2_with fail
            refine (works_calls _ (HM0.out.below H12.out)).mono ?_
            rintro e w13 ⟨rfl, hb⟩
            go_wp2
            go_ret
            exact ⟨rfl, below_then H12.out H12.out.size hb⟩
          | true =>
            have his := hmt rfl
            rw [his]
            clear hmt his
            go_wp2_with fail
            refine (works_calls _ (HM0.out.below H12.out)).mono ?_
            rintro e w13 ⟨rfl, hb⟩
            go_wp2
            go_ret
            exact ⟨rfl, below_then H12.out H12.out.size hb⟩

      · as_aux_lemma =>
          go_upto_region 16 with (go_at_call 52; refine (Band_calls _ _ _).mono ?_; rintro e w8 ⟨rfl, hb⟩; have k10 := K10.out.below hb; have hlo8 := Hlo7.out.trans (hb.mono (by have := K10.out.lt; omega)); have hl8 := Hll.out.below hb; obtain ⟨c10, f10, l10⟩ := k10; clear hb)
          have hk3 : Keep (fun q => q = n10) w8 ((w8.setCell ⟨n10, 1, none⟩ (.int .i64 0)).setCell ⟨n10, 2, none⟩ (.int .i64 (B.thi + by_))) := Keep.setCell (M := fun q => q = n10) (Keep.setCell (M := fun q => q = n10) (Keep.refl _ _) (p := ⟨n10, 1, none⟩) (.inl rfl) _) (p := ⟨n10, 2, none⟩) (.inl rfl) _
          have hlo9 := hlo8.trans (hk3.below (n := n10) (fun q _ e => by omega) (by omega))
          have k10 : BoxAt w8 n10 #[.slice (some ⟨g, 0, none⟩) B.lots.length c8, .int .i64 B.tlo, .int .i64 B.thi, .int .i64 B.thick, .int .i64 B.crack, .int .i64 B.glo, .int .i64 B.ghi, .slice B.sA B.thins.length B.sCap, .int .i64 B.hot, .int .i64 B.least, .int .i64 B.clo, .int .i64 B.chi, .int .i64 B.coal, .slice B.kA B.looks.length B.kCap] := ⟨c10, f10, l10⟩
          have k11 : BoxAt ((w8.setCell ⟨n10, 1, none⟩ (.int .i64 0)).setCell ⟨n10, 2, none⟩ (.int .i64 (B.thi + by_))) n10 #[.slice (some ⟨g, 0, none⟩) B.lots.length c8, .int .i64 0, .int .i64 (B.thi + by_), .int .i64 B.thick, .int .i64 B.crack, .int .i64 B.glo, .int .i64 B.ghi, .slice B.sA B.thins.length B.sCap, .int .i64 B.hot, .int .i64 B.least, .int .i64 B.clo, .int .i64 B.chi, .int .i64 B.coal, .slice B.kA B.looks.length B.kCap] := (k10.put 1 (.int .i64 0) (by simp)).put 2 (.int .i64 (B.thi + by_)) (by simp)
          have hlx := hl8.keep hk3 (fun b o e => by cases e; omega)
          have H9 := Lib.hid (H5.out.trans (hlo9.mono hn10))
          have Hl9 := Lib.hid (Hl7.out.below (show Below w5.heap.size w5 ((w8.setCell ⟨n10, 1, none⟩ (.int .i64 0)).setCell ⟨n10, 2, none⟩ (.int .i64 (B.thi + by_))) by rw [Hne.out]; exact hlo9))
          have hE := easy0 Hg.out (some ⟨g, 0, none⟩) c8 (lo := 0) (hi := (B.thi + by_)) (by have := Hg.out.tin; omega) (by have := Hg.out.tin; omega)
          have hX : (easyB B (some ⟨g, 0, none⟩) c8 B.lots 0 (B.thi + by_)).Reads ((w8.setCell ⟨n10, 1, none⟩ (.int .i64 0)).setCell ⟨n10, 2, none⟩ (.int .i64 (B.thi + by_))) := by
            have h := HB0.out.below H9.out
            exact ⟨hlx, h.thins, h.looks⟩
          clear hk3 k10 c10 f10 l10 hlo8 hlo9 hl8 hlx
          generalize World.setCell (World.setCell w8 _ _) _ _ = w9 at *
          obtain ⟨c10, f10, l10⟩ := k11
          have HX := Lib.hid hX
          have gX := hE.1
          have hmt := fun h => easier_melt Hg.out gX hE.2 (m := V) h
          rw [HWas.out] at hmt
          clear hX hE
          have HMx := Lib.hid (HM0.out.below H9.out)
          go_wp2_with fail
          refine (eq0_2 (v' := (easyB B (some ⟨g, 0, none⟩) c8 B.lots 0 (B.thi + by_)).val) (by unfold ForgeV.val; rw [easyB_cells] <;> simp only [List.length_set]) (IsMelt_calls (easyB B (some ⟨g, 0, none⟩) c8 B.lots 0 (B.thi + by_)) A7 c7 V _ HX.out Hl9.out HMx.out)).mono ?_
          rintro e w12 ⟨rfl, hb⟩
          rw [isMelt_good gX]
          have H12 := Lib.hid (below_then H9.out H9.out.size hb)
          clear hb gX HX
          generalize (withinS (easyB B (some ⟨g, 0, none⟩) c8 B.lots 0 (B.thi + by_)) V && rightS (easyB B (some ⟨g, 0, none⟩) c8 B.lots 0 (B.thi + by_)) V) = is_ at *
          cases was with
          | false =>
            clear hmt
            go_wp2_with fail
            refine (works_calls _ (HM0.out.below H12.out)).mono ?_
            rintro e w13 ⟨rfl, hb⟩
            go_wp2
            go_ret
            exact ⟨rfl, below_then H12.out H12.out.size hb⟩
          | true =>
            have his := hmt rfl
            rw [his]
            clear hmt his
            go_wp2_with fail
            refine (works_calls _ (HM0.out.below H12.out)).mono ?_
            rintro e w13 ⟨rfl, hb⟩
            go_wp2
            go_ret
            exact ⟨rfl, below_then H12.out H12.out.size hb⟩

      · as_aux_lemma =>
          go_upto_region 16 with (go_at_call 52; refine (Band_calls _ _ _).mono ?_; rintro e w8 ⟨rfl, hb⟩; have k10 := K10.out.below hb; have hlo8 := Hlo7.out.trans (hb.mono (by have := K10.out.lt; omega)); have hl8 := Hll.out.below hb; obtain ⟨c10, f10, l10⟩ := k10; clear hb)
          have hk3 : Keep (fun q => q = n10) w8 ((w8.setCell ⟨n10, 1, none⟩ (.int .i64 0)).setCell ⟨n10, 2, none⟩ (.int .i64 1000)) := Keep.setCell (M := fun q => q = n10) (Keep.setCell (M := fun q => q = n10) (Keep.refl _ _) (p := ⟨n10, 1, none⟩) (.inl rfl) _) (p := ⟨n10, 2, none⟩) (.inl rfl) _
          have hlo9 := hlo8.trans (hk3.below (n := n10) (fun q _ e => by omega) (by omega))
          have k10 : BoxAt w8 n10 #[.slice (some ⟨g, 0, none⟩) B.lots.length c8, .int .i64 B.tlo, .int .i64 B.thi, .int .i64 B.thick, .int .i64 B.crack, .int .i64 B.glo, .int .i64 B.ghi, .slice B.sA B.thins.length B.sCap, .int .i64 B.hot, .int .i64 B.least, .int .i64 B.clo, .int .i64 B.chi, .int .i64 B.coal, .slice B.kA B.looks.length B.kCap] := ⟨c10, f10, l10⟩
          have k11 : BoxAt ((w8.setCell ⟨n10, 1, none⟩ (.int .i64 0)).setCell ⟨n10, 2, none⟩ (.int .i64 1000)) n10 #[.slice (some ⟨g, 0, none⟩) B.lots.length c8, .int .i64 0, .int .i64 1000, .int .i64 B.thick, .int .i64 B.crack, .int .i64 B.glo, .int .i64 B.ghi, .slice B.sA B.thins.length B.sCap, .int .i64 B.hot, .int .i64 B.least, .int .i64 B.clo, .int .i64 B.chi, .int .i64 B.coal, .slice B.kA B.looks.length B.kCap] := (k10.put 1 (.int .i64 0) (by simp)).put 2 (.int .i64 1000) (by simp)
          have hlx := hl8.keep hk3 (fun b o e => by cases e; omega)
          have H9 := Lib.hid (H5.out.trans (hlo9.mono hn10))
          have Hl9 := Lib.hid (Hl7.out.below (show Below w5.heap.size w5 ((w8.setCell ⟨n10, 1, none⟩ (.int .i64 0)).setCell ⟨n10, 2, none⟩ (.int .i64 1000)) by rw [Hne.out]; exact hlo9))
          have hE := easy0 Hg.out (some ⟨g, 0, none⟩) c8 (lo := 0) (hi := 1000) (by have := Hg.out.tin; omega) (by have := Hg.out.tin; omega)
          have hX : (easyB B (some ⟨g, 0, none⟩) c8 B.lots 0 1000).Reads ((w8.setCell ⟨n10, 1, none⟩ (.int .i64 0)).setCell ⟨n10, 2, none⟩ (.int .i64 1000)) := by
            have h := HB0.out.below H9.out
            exact ⟨hlx, h.thins, h.looks⟩
          clear hk3 k10 c10 f10 l10 hlo8 hlo9 hl8 hlx
          generalize World.setCell (World.setCell w8 _ _) _ _ = w9 at *
          obtain ⟨c10, f10, l10⟩ := k11
          have HX := Lib.hid hX
          have gX := hE.1
          have hmt := fun h => easier_melt Hg.out gX hE.2 (m := V) h
          rw [HWas.out] at hmt
          clear hX hE
          have HMx := Lib.hid (HM0.out.below H9.out)
          go_wp2_with fail
          refine (eq0_2 (v' := (easyB B (some ⟨g, 0, none⟩) c8 B.lots 0 1000).val) (by unfold ForgeV.val; rw [easyB_cells] <;> simp only [List.length_set]) (IsMelt_calls (easyB B (some ⟨g, 0, none⟩) c8 B.lots 0 1000) A7 c7 V _ HX.out Hl9.out HMx.out)).mono ?_
          rintro e w12 ⟨rfl, hb⟩
          rw [isMelt_good gX]
          have H12 := Lib.hid (below_then H9.out H9.out.size hb)
          clear hb gX HX
          generalize (withinS (easyB B (some ⟨g, 0, none⟩) c8 B.lots 0 1000) V && rightS (easyB B (some ⟨g, 0, none⟩) c8 B.lots 0 1000) V) = is_ at *
          cases was with
          | false =>
            clear hmt
            go_wp2_with fail
            refine (works_calls _ (HM0.out.below H12.out)).mono ?_
            rintro e w13 ⟨rfl, hb⟩
            go_wp2
            go_ret
            exact ⟨rfl, below_then H12.out H12.out.size hb⟩
          | true =>
            have his := hmt rfl
            rw [his]
            clear hmt his
            go_wp2_with fail
            refine (works_calls _ (HM0.out.below H12.out)).mono ?_
            rintro e w13 ⟨rfl, hb⟩
            go_wp2
            go_ret
            exact ⟨rfl, below_then H12.out H12.out.size hb⟩

    · obtain ⟨c13, f13, l13⟩ := K13.out
      have hw1 : IntKind.i64.wrap ((gl B.lots k).lo + by_) = (gl B.lots k).lo + by_ := wrap_in (by omega) (by omega)
      have hw2 : IntKind.i64.wrap ((gl B.lots k).hi - by_) = (gl B.lots k).hi - by_ := wrap_in (by omega) (by omega)
      rcases Int.lt_or_le ((gl B.lots k).lo + by_) (gl B.lots k).hi with m1 | m1
      · rcases Int.lt_or_le ((gl B.lots k).lo + by_) ((gl B.lots k).hi - by_) with m2 | m2
        · as_aux_lemma =>
            go_upto_region 15 with (fail)
            obtain ⟨c10, f10, l10⟩ := K10.out
            refine region_plain (S := fun w' => Below w7.heap.size w7 w') 16 (by kernel_rfl) ?_ (fun hHeld => ?_)
            · exact (Below.refl _ _).drew
            first | (refine anyT_take 0 (some 91) (v := ?_) rfl rfl (by kernel_rfl) (by kernel_rfl) (by kernel_rfl) (by kernel_rfl) (fun _ _ _ h => h) (Or.inl ⟨by rfl, ?_⟩) hHeld ?_; rotate_left; focus (intro wq hSw; obtain ⟨hcq, hfq⟩ := bcell hSw; go_simp; (try with_reducible rfl); done))
            (try simp only [Act.put, List.setIfInBounds_toArray, List.set_cons_zero, List.set_cons_succ])
            first | (refine anyT_take 1 (some 92) (v := ?_) rfl rfl (by kernel_rfl) (by kernel_rfl) (by kernel_rfl) (by kernel_rfl) (fun _ _ _ h => h) (Or.inl ⟨by rfl, ?_⟩) hHeld ?_; rotate_left; focus (intro wq hSw; obtain ⟨hcq, hfq⟩ := bcell hSw; go_simp; (try with_reducible rfl); done))
            (try simp only [Act.put, List.setIfInBounds_toArray, List.set_cons_zero, List.set_cons_succ])
            first | (refine anyT_take 2 (some 93) (v := ?_) rfl rfl (by kernel_rfl) (by kernel_rfl) (by kernel_rfl) (by kernel_rfl) (fun _ _ _ h => h) (Or.inl ⟨by rfl, ?_⟩) hHeld ?_; rotate_left; focus (intro wq hSw; obtain ⟨hcq, hfq⟩ := bcell hSw; go_simp; (try with_reducible rfl); done))
            (try simp only [Act.put, List.setIfInBounds_toArray, List.set_cons_zero, List.set_cons_succ])
            first | (refine anyT_take 3 (some 94) (v := ?_) rfl rfl (by kernel_rfl) (by kernel_rfl) (by kernel_rfl) (by kernel_rfl) (fun _ _ _ h => h) (Or.inl ⟨by rfl, ?_⟩) hHeld ?_; rotate_left; focus (intro wq hSw; obtain ⟨hcq, hfq⟩ := bcell hSw; go_simp; (try with_reducible rfl); done))
            (try simp only [Act.put, List.setIfInBounds_toArray, List.set_cons_zero, List.set_cons_succ])
            first | (refine anyT_take 4 (some 95) (v := ?_) rfl rfl (by kernel_rfl) (by kernel_rfl) (by kernel_rfl) (by kernel_rfl) (fun _ _ _ h => h) (Or.inl ⟨by rfl, ?_⟩) hHeld ?_; rotate_left; focus (intro wq hSw; obtain ⟨hcq, hfq⟩ := bcell hSw; go_simp; (try with_reducible rfl); done))
            (try simp only [Act.put, List.setIfInBounds_toArray, List.set_cons_zero, List.set_cons_succ])
            first | (refine anyT_take 5 (some 96) (v := ?_) rfl rfl (by kernel_rfl) (by kernel_rfl) (by kernel_rfl) (by kernel_rfl) (fun _ _ _ h => h) (Or.inl ⟨by rfl, ?_⟩) hHeld ?_; rotate_left; focus (intro wq hSw; obtain ⟨hcq, hfq⟩ := bcell hSw; go_simp; (try with_reducible rfl); done))
            (try simp only [Act.put, List.setIfInBounds_toArray, List.set_cons_zero, List.set_cons_succ])
            first | (refine anyT_take 6 (some 97) (v := ?_) rfl rfl (by kernel_rfl) (by kernel_rfl) (by kernel_rfl) (by kernel_rfl) (fun _ _ _ h => h) (Or.inl ⟨by rfl, ?_⟩) hHeld ?_; rotate_left; focus (intro wq hSw; obtain ⟨hcq, hfq⟩ := bcell hSw; go_simp; (try with_reducible rfl); done))
            (try simp only [Act.put, List.setIfInBounds_toArray, List.set_cons_zero, List.set_cons_succ])
            first | (refine anyT_take 7 (some 98) (v := ?_) rfl rfl (by kernel_rfl) (by kernel_rfl) (by kernel_rfl) (by kernel_rfl) (fun _ _ _ h => h) (Or.inl ⟨by rfl, ?_⟩) hHeld ?_; rotate_left; focus (intro wq hSw; obtain ⟨hcq, hfq⟩ := bcell hSw; go_simp; (try with_reducible rfl); done))
            (try simp only [Act.put, List.setIfInBounds_toArray, List.set_cons_zero, List.set_cons_succ])
            first | (refine anyT_take 8 (some 99) (v := ?_) rfl rfl (by kernel_rfl) (by kernel_rfl) (by kernel_rfl) (by kernel_rfl) (fun _ _ _ h => h) (Or.inl ⟨by rfl, ?_⟩) hHeld ?_; rotate_left; focus (intro wq hSw; obtain ⟨hcq, hfq⟩ := bcell hSw; go_simp; (try with_reducible rfl); done))
            (try simp only [Act.put, List.setIfInBounds_toArray, List.set_cons_zero, List.set_cons_succ])
            first | (refine anyT_take 9 (some 100) (v := ?_) rfl rfl (by kernel_rfl) (by kernel_rfl) (by kernel_rfl) (by kernel_rfl) (fun _ _ _ h => h) (Or.inl ⟨by rfl, ?_⟩) hHeld ?_; rotate_left; focus (intro wq hSw; obtain ⟨hcq, hfq⟩ := bcell hSw; go_simp; (try with_reducible rfl); done))
            (try simp only [Act.put, List.setIfInBounds_toArray, List.set_cons_zero, List.set_cons_succ])
            first | (refine anyT_take 10 (some 101) (v := ?_) rfl rfl (by kernel_rfl) (by kernel_rfl) (by kernel_rfl) (by kernel_rfl) (fun _ _ _ h => h) (Or.inl ⟨by rfl, ?_⟩) hHeld ?_; rotate_left; focus (intro wq hSw; obtain ⟨hcq, hfq⟩ := bcell hSw; go_simp; (try with_reducible rfl); done))
            (try simp only [Act.put, List.setIfInBounds_toArray, List.set_cons_zero, List.set_cons_succ])
            first | (refine anyT_take 11 (some 102) (v := ?_) rfl rfl (by kernel_rfl) (by kernel_rfl) (by kernel_rfl) (by kernel_rfl) (fun _ _ _ h => h) (Or.inl ⟨by rfl, ?_⟩) hHeld ?_; rotate_left; focus (intro wq hSw; obtain ⟨hcq, hfq⟩ := bcell hSw; go_simp; (try with_reducible rfl); done))
            (try simp only [Act.put, List.setIfInBounds_toArray, List.set_cons_zero, List.set_cons_succ])
            first | (refine anyT_take 12 (some 103) (v := ?_) rfl rfl (by kernel_rfl) (by kernel_rfl) (by kernel_rfl) (by kernel_rfl) (fun _ _ _ h => h) (Or.inl ⟨by rfl, ?_⟩) hHeld ?_; rotate_left; focus (intro wq hSw; obtain ⟨hcq, hfq⟩ := bcell hSw; go_simp; (try with_reducible rfl); done))
            (try simp only [Act.put, List.setIfInBounds_toArray, List.set_cons_zero, List.set_cons_succ])
            refine anyT_one 13 (by kernel_rfl) rfl (fun K hK => ?_)
            go_simp
            refine (Band_calls _ _ _).mono ?_; rintro e w8 ⟨rfl, hb⟩
            refine hK.out _ _ ?_ (fun hHeld => ?_)
            · exact below_then hHeld hHeld.size hb
            clear hK K
            (try simp only [Act.put, List.setIfInBounds_toArray, List.set_cons_zero, List.set_cons_succ])
            first | (refine anyT_take 14 (some 105) (v := ?_) rfl rfl (by kernel_rfl) (by kernel_rfl) (by kernel_rfl) (by kernel_rfl) (fun _ _ _ h => h) (Or.inl ⟨by rfl, ?_⟩) hHeld ?_; rotate_left; focus (intro wq hSw; obtain ⟨hcq, hfq⟩ := bcell hSw; go_simp; (try with_reducible rfl); done))
            (try simp only [Act.put, List.setIfInBounds_toArray, List.set_cons_zero, List.set_cons_succ])
            first | (refine anyT_take 15 (some 106) (v := ?_) rfl rfl (by kernel_rfl) (by kernel_rfl) (by kernel_rfl) (by kernel_rfl) (fun _ _ _ h => h) (Or.inl ⟨by rfl, ?_⟩) hHeld ?_; rotate_left; focus (intro wq hSw; obtain ⟨hcq, hfq⟩ := bcell hSw; go_simp; (try with_reducible rfl); done))
            (try simp only [Act.put, List.setIfInBounds_toArray, List.set_cons_zero, List.set_cons_succ])
            refine anyT_last (by kernel_rfl) rfl (fun K hK => ?_)
            have fg := (Kg.out.below hHeld).frozen; have hpg := (Hll.out.below hHeld).at_ hkl; rw [Nat.zero_add] at hpg; obtain ⟨q0, q1, q2⟩ := hpg
            go_simp
            refine hK.out _ _ ?_
            clear hK K
            (try simp only [Act.put, List.setIfInBounds_toArray, List.set_cons_zero, List.set_cons_succ])
            refine anyT_done (by kernel_rfl) ?_ _
            have hlo8 := Hlo7.out.trans (hHeld.mono (by omega))
            have K10x := K10.out.below hHeld
            have Kgx := Kg.out.below hHeld
            have Hllx := Hll.out.below hHeld
            clear hHeld hb q0 q1 q2 fg c13 f13 l13 c10 f10 l10
            go_upto_region 16 with (fail)
            (try rw [if_neg (show ¬ ((gl B.lots k).lo + by_ < (gl B.lots k).hi - by_) by omega)])
            (try rw [if_neg (show ¬ ((gl B.lots k).hi < (gl B.lots k).hi - by_) by omega)])
            have hk3 : Keep (fun q => q = g) w8 (((w8.setCell ⟨g, k * 3, none⟩ (.int .i64 (gl B.lots k).bars)).setCell ⟨g, k * 3 + 1, none⟩ (.int .i64 ((gl B.lots k).lo + by_))).setCell ⟨g, k * 3 + 2, none⟩ (.int .i64 ((gl B.lots k).hi - by_))) := Keep.setCell (M := fun q => q = g) (Keep.setCell (M := fun q => q = g) (Keep.setCell (M := fun q => q = g) (Keep.refl _ _) (p := ⟨g, k * 3, none⟩) (.inl rfl) _) (p := ⟨g, k * 3 + 1, none⟩) (.inl rfl) _) (p := ⟨g, k * 3 + 2, none⟩) (.inl rfl) _
            have hlo9 := hlo8.trans (hk3.below (n := n10) (fun q _ e => by omega) (by have := K10x.lt; omega))
            have k11 := K10x.keep hk3 (by omega)
            have hlx := lots_put Kgx Hllx hkl ((gl B.lots k).bars) (((gl B.lots k).lo + by_)) (((gl B.lots k).hi - by_))
            have H9 := Lib.hid (H5.out.trans (hlo9.mono hn10))
            have Hl9 := Lib.hid (Hl7.out.below (show Below w5.heap.size w5 (((w8.setCell ⟨g, k * 3, none⟩ (.int .i64 (gl B.lots k).bars)).setCell ⟨g, k * 3 + 1, none⟩ (.int .i64 ((gl B.lots k).lo + by_))).setCell ⟨g, k * 3 + 2, none⟩ (.int .i64 ((gl B.lots k).hi - by_))) by rw [Hne.out]; exact hlo9))
            have hE := easy1 Hg.out (some ⟨g, 0, none⟩) c8 hkl (b := (gl B.lots k).bars) (lo := ((gl B.lots k).lo + by_)) (hi := ((gl B.lots k).hi - by_)) (by have := Hg.out.lot k hkl; omega) (by have := Hg.out.lot k hkl; omega)
            have hX : (easyB B (some ⟨g, 0, none⟩) c8 (B.lots.set k ⟨(gl B.lots k).bars, ((gl B.lots k).lo + by_), ((gl B.lots k).hi - by_)⟩) B.tlo B.thi).Reads (((w8.setCell ⟨g, k * 3, none⟩ (.int .i64 (gl B.lots k).bars)).setCell ⟨g, k * 3 + 1, none⟩ (.int .i64 ((gl B.lots k).lo + by_))).setCell ⟨g, k * 3 + 2, none⟩ (.int .i64 ((gl B.lots k).hi - by_))) := by
              have h := HB0.out.below H9.out
              exact ⟨hlx, h.thins, h.looks⟩
            clear hk3 hlo8 hlo9 hlx K10x Kgx Hllx
            generalize (((w8.setCell ⟨g, k * 3, none⟩ (.int .i64 (gl B.lots k).bars)).setCell ⟨g, k * 3 + 1, none⟩ (.int .i64 ((gl B.lots k).lo + by_))).setCell ⟨g, k * 3 + 2, none⟩ (.int .i64 ((gl B.lots k).hi - by_))) = w9 at *
            obtain ⟨c10, f10, l10⟩ := k11
            have HX := Lib.hid hX
            have gX := hE.1
            have hmt := fun h => easier_melt Hg.out gX hE.2 (m := V) h
            rw [HWas.out] at hmt
            clear hX hE
            have HMx := Lib.hid (HM0.out.below H9.out)
            go_wp2_with fail
            refine (eq0_2 (v' := (easyB B (some ⟨g, 0, none⟩) c8 (B.lots.set k ⟨(gl B.lots k).bars, ((gl B.lots k).lo + by_), ((gl B.lots k).hi - by_)⟩) B.tlo B.thi).val) (by unfold ForgeV.val; rw [easyS_cells]) (IsMelt_calls (easyB B (some ⟨g, 0, none⟩) c8 (B.lots.set k ⟨(gl B.lots k).bars, ((gl B.lots k).lo + by_), ((gl B.lots k).hi - by_)⟩) B.tlo B.thi) A7 c7 V _ HX.out Hl9.out HMx.out)).mono ?_
            rintro e w12 ⟨rfl, hb⟩
            rw [isMelt_good gX]
            have H12 := Lib.hid (below_then H9.out H9.out.size hb)
            clear hb gX HX
            generalize (withinS (easyB B (some ⟨g, 0, none⟩) c8 (B.lots.set k ⟨(gl B.lots k).bars, ((gl B.lots k).lo + by_), ((gl B.lots k).hi - by_)⟩) B.tlo B.thi) V && rightS (easyB B (some ⟨g, 0, none⟩) c8 (B.lots.set k ⟨(gl B.lots k).bars, ((gl B.lots k).lo + by_), ((gl B.lots k).hi - by_)⟩) B.tlo B.thi) V) = is_ at *
            cases was with
            | false =>
              clear hmt
              go_wp2_with fail
              refine (works_calls _ (HM0.out.below H12.out)).mono ?_
              rintro e w13 ⟨rfl, hb⟩
              go_wp2
              go_ret
              exact ⟨rfl, below_then H12.out H12.out.size hb⟩
            | true =>
              have his := hmt rfl
              rw [his]
              clear hmt his
              go_wp2_with fail
              refine (works_calls _ (HM0.out.below H12.out)).mono ?_
              rintro e w13 ⟨rfl, hb⟩
              go_wp2
              go_ret
              exact ⟨rfl, below_then H12.out H12.out.size hb⟩

        · as_aux_lemma =>
            replace m2 := Int.not_lt.2 m2
            go_upto_region 15 with (fail)
            obtain ⟨c10, f10, l10⟩ := K10.out
            refine region_plain (S := fun w' => Below w7.heap.size w7 w') 16 (by kernel_rfl) ?_ (fun hHeld => ?_)
            · exact (Below.refl _ _).drew
            first | (refine anyT_take 0 (some 91) (v := ?_) rfl rfl (by kernel_rfl) (by kernel_rfl) (by kernel_rfl) (by kernel_rfl) (fun _ _ _ h => h) (Or.inl ⟨by rfl, ?_⟩) hHeld ?_; rotate_left; focus (intro wq hSw; obtain ⟨hcq, hfq⟩ := bcell hSw; go_simp; (try with_reducible rfl); done))
            (try simp only [Act.put, List.setIfInBounds_toArray, List.set_cons_zero, List.set_cons_succ])
            first | (refine anyT_take 1 (some 92) (v := ?_) rfl rfl (by kernel_rfl) (by kernel_rfl) (by kernel_rfl) (by kernel_rfl) (fun _ _ _ h => h) (Or.inl ⟨by rfl, ?_⟩) hHeld ?_; rotate_left; focus (intro wq hSw; obtain ⟨hcq, hfq⟩ := bcell hSw; go_simp; (try with_reducible rfl); done))
            (try simp only [Act.put, List.setIfInBounds_toArray, List.set_cons_zero, List.set_cons_succ])
            first | (refine anyT_take 2 (some 93) (v := ?_) rfl rfl (by kernel_rfl) (by kernel_rfl) (by kernel_rfl) (by kernel_rfl) (fun _ _ _ h => h) (Or.inl ⟨by rfl, ?_⟩) hHeld ?_; rotate_left; focus (intro wq hSw; obtain ⟨hcq, hfq⟩ := bcell hSw; go_simp; (try with_reducible rfl); done))
            (try simp only [Act.put, List.setIfInBounds_toArray, List.set_cons_zero, List.set_cons_succ])
            first | (refine anyT_take 3 (some 94) (v := ?_) rfl rfl (by kernel_rfl) (by kernel_rfl) (by kernel_rfl) (by kernel_rfl) (fun _ _ _ h => h) (Or.inl ⟨by rfl, ?_⟩) hHeld ?_; rotate_left; focus (intro wq hSw; obtain ⟨hcq, hfq⟩ := bcell hSw; go_simp; (try with_reducible rfl); done))
            (try simp only [Act.put, List.setIfInBounds_toArray, List.set_cons_zero, List.set_cons_succ])
            first | (refine anyT_take 4 (some 95) (v := ?_) rfl rfl (by kernel_rfl) (by kernel_rfl) (by kernel_rfl) (by kernel_rfl) (fun _ _ _ h => h) (Or.inl ⟨by rfl, ?_⟩) hHeld ?_; rotate_left; focus (intro wq hSw; obtain ⟨hcq, hfq⟩ := bcell hSw; go_simp; (try with_reducible rfl); done))
            (try simp only [Act.put, List.setIfInBounds_toArray, List.set_cons_zero, List.set_cons_succ])
            first | (refine anyT_take 5 (some 96) (v := ?_) rfl rfl (by kernel_rfl) (by kernel_rfl) (by kernel_rfl) (by kernel_rfl) (fun _ _ _ h => h) (Or.inl ⟨by rfl, ?_⟩) hHeld ?_; rotate_left; focus (intro wq hSw; obtain ⟨hcq, hfq⟩ := bcell hSw; go_simp; (try with_reducible rfl); done))
            (try simp only [Act.put, List.setIfInBounds_toArray, List.set_cons_zero, List.set_cons_succ])
            first | (refine anyT_take 6 (some 97) (v := ?_) rfl rfl (by kernel_rfl) (by kernel_rfl) (by kernel_rfl) (by kernel_rfl) (fun _ _ _ h => h) (Or.inl ⟨by rfl, ?_⟩) hHeld ?_; rotate_left; focus (intro wq hSw; obtain ⟨hcq, hfq⟩ := bcell hSw; go_simp; (try with_reducible rfl); done))
            (try simp only [Act.put, List.setIfInBounds_toArray, List.set_cons_zero, List.set_cons_succ])
            first | (refine anyT_take 7 (some 98) (v := ?_) rfl rfl (by kernel_rfl) (by kernel_rfl) (by kernel_rfl) (by kernel_rfl) (fun _ _ _ h => h) (Or.inl ⟨by rfl, ?_⟩) hHeld ?_; rotate_left; focus (intro wq hSw; obtain ⟨hcq, hfq⟩ := bcell hSw; go_simp; (try with_reducible rfl); done))
            (try simp only [Act.put, List.setIfInBounds_toArray, List.set_cons_zero, List.set_cons_succ])
            first | (refine anyT_take 8 (some 99) (v := ?_) rfl rfl (by kernel_rfl) (by kernel_rfl) (by kernel_rfl) (by kernel_rfl) (fun _ _ _ h => h) (Or.inl ⟨by rfl, ?_⟩) hHeld ?_; rotate_left; focus (intro wq hSw; obtain ⟨hcq, hfq⟩ := bcell hSw; go_simp; (try with_reducible rfl); done))
            (try simp only [Act.put, List.setIfInBounds_toArray, List.set_cons_zero, List.set_cons_succ])
            first | (refine anyT_take 9 (some 100) (v := ?_) rfl rfl (by kernel_rfl) (by kernel_rfl) (by kernel_rfl) (by kernel_rfl) (fun _ _ _ h => h) (Or.inl ⟨by rfl, ?_⟩) hHeld ?_; rotate_left; focus (intro wq hSw; obtain ⟨hcq, hfq⟩ := bcell hSw; go_simp; (try with_reducible rfl); done))
            (try simp only [Act.put, List.setIfInBounds_toArray, List.set_cons_zero, List.set_cons_succ])
            first | (refine anyT_take 10 (some 101) (v := ?_) rfl rfl (by kernel_rfl) (by kernel_rfl) (by kernel_rfl) (by kernel_rfl) (fun _ _ _ h => h) (Or.inl ⟨by rfl, ?_⟩) hHeld ?_; rotate_left; focus (intro wq hSw; obtain ⟨hcq, hfq⟩ := bcell hSw; go_simp; (try with_reducible rfl); done))
            (try simp only [Act.put, List.setIfInBounds_toArray, List.set_cons_zero, List.set_cons_succ])
            first | (refine anyT_take 11 (some 102) (v := ?_) rfl rfl (by kernel_rfl) (by kernel_rfl) (by kernel_rfl) (by kernel_rfl) (fun _ _ _ h => h) (Or.inl ⟨by rfl, ?_⟩) hHeld ?_; rotate_left; focus (intro wq hSw; obtain ⟨hcq, hfq⟩ := bcell hSw; go_simp; (try with_reducible rfl); done))
            (try simp only [Act.put, List.setIfInBounds_toArray, List.set_cons_zero, List.set_cons_succ])
            first | (refine anyT_take 12 (some 103) (v := ?_) rfl rfl (by kernel_rfl) (by kernel_rfl) (by kernel_rfl) (by kernel_rfl) (fun _ _ _ h => h) (Or.inl ⟨by rfl, ?_⟩) hHeld ?_; rotate_left; focus (intro wq hSw; obtain ⟨hcq, hfq⟩ := bcell hSw; go_simp; (try with_reducible rfl); done))
            (try simp only [Act.put, List.setIfInBounds_toArray, List.set_cons_zero, List.set_cons_succ])
            refine anyT_one 13 (by kernel_rfl) rfl (fun K hK => ?_)
            go_simp
            refine (Band_calls _ _ _).mono ?_; rintro e w8 ⟨rfl, hb⟩
            refine hK.out _ _ ?_ (fun hHeld => ?_)
            · exact below_then hHeld hHeld.size hb
            clear hK K
            (try simp only [Act.put, List.setIfInBounds_toArray, List.set_cons_zero, List.set_cons_succ])
            first | (refine anyT_take 14 (some 105) (v := ?_) rfl rfl (by kernel_rfl) (by kernel_rfl) (by kernel_rfl) (by kernel_rfl) (fun _ _ _ h => h) (Or.inl ⟨by rfl, ?_⟩) hHeld ?_; rotate_left; focus (intro wq hSw; obtain ⟨hcq, hfq⟩ := bcell hSw; go_simp; (try with_reducible rfl); done))
            (try simp only [Act.put, List.setIfInBounds_toArray, List.set_cons_zero, List.set_cons_succ])
            first | (refine anyT_take 15 (some 106) (v := ?_) rfl rfl (by kernel_rfl) (by kernel_rfl) (by kernel_rfl) (by kernel_rfl) (fun _ _ _ h => h) (Or.inl ⟨by rfl, ?_⟩) hHeld ?_; rotate_left; focus (intro wq hSw; obtain ⟨hcq, hfq⟩ := bcell hSw; go_simp; (try with_reducible rfl); done))
            (try simp only [Act.put, List.setIfInBounds_toArray, List.set_cons_zero, List.set_cons_succ])
            refine anyT_last (by kernel_rfl) rfl (fun K hK => ?_)
            have fg := (Kg.out.below hHeld).frozen; have hpg := (Hll.out.below hHeld).at_ hkl; rw [Nat.zero_add] at hpg; obtain ⟨q0, q1, q2⟩ := hpg
            go_simp
            refine hK.out _ _ ?_
            clear hK K
            (try simp only [Act.put, List.setIfInBounds_toArray, List.set_cons_zero, List.set_cons_succ])
            refine anyT_done (by kernel_rfl) ?_ _
            have hlo8 := Hlo7.out.trans (hHeld.mono (by omega))
            have K10x := K10.out.below hHeld
            have Kgx := Kg.out.below hHeld
            have Hllx := Hll.out.below hHeld
            clear hHeld hb q0 q1 q2 fg c13 f13 l13 c10 f10 l10
            go_upto_region 16 with (fail)
            (try rw [if_neg (show ¬ ((gl B.lots k).lo + by_ < (gl B.lots k).hi - by_) by omega)])
            (try rw [if_neg (show ¬ ((gl B.lots k).hi < (gl B.lots k).hi - by_) by omega)])
            have hk3 : Keep (fun q => q = g) w8 (((w8.setCell ⟨g, k * 3, none⟩ (.int .i64 (gl B.lots k).bars)).setCell ⟨g, k * 3 + 1, none⟩ (.int .i64 ((gl B.lots k).lo + by_))).setCell ⟨g, k * 3 + 2, none⟩ (.int .i64 ((gl B.lots k).lo + by_))) := Keep.setCell (M := fun q => q = g) (Keep.setCell (M := fun q => q = g) (Keep.setCell (M := fun q => q = g) (Keep.refl _ _) (p := ⟨g, k * 3, none⟩) (.inl rfl) _) (p := ⟨g, k * 3 + 1, none⟩) (.inl rfl) _) (p := ⟨g, k * 3 + 2, none⟩) (.inl rfl) _
            have hlo9 := hlo8.trans (hk3.below (n := n10) (fun q _ e => by omega) (by have := K10x.lt; omega))
            have k11 := K10x.keep hk3 (by omega)
            have hlx := lots_put Kgx Hllx hkl ((gl B.lots k).bars) (((gl B.lots k).lo + by_)) (((gl B.lots k).lo + by_))
            have H9 := Lib.hid (H5.out.trans (hlo9.mono hn10))
            have Hl9 := Lib.hid (Hl7.out.below (show Below w5.heap.size w5 (((w8.setCell ⟨g, k * 3, none⟩ (.int .i64 (gl B.lots k).bars)).setCell ⟨g, k * 3 + 1, none⟩ (.int .i64 ((gl B.lots k).lo + by_))).setCell ⟨g, k * 3 + 2, none⟩ (.int .i64 ((gl B.lots k).lo + by_))) by rw [Hne.out]; exact hlo9))
            have hE := easy1 Hg.out (some ⟨g, 0, none⟩) c8 hkl (b := (gl B.lots k).bars) (lo := ((gl B.lots k).lo + by_)) (hi := ((gl B.lots k).lo + by_)) (by have := Hg.out.lot k hkl; omega) (by have := Hg.out.lot k hkl; omega)
            have hX : (easyB B (some ⟨g, 0, none⟩) c8 (B.lots.set k ⟨(gl B.lots k).bars, ((gl B.lots k).lo + by_), ((gl B.lots k).lo + by_)⟩) B.tlo B.thi).Reads (((w8.setCell ⟨g, k * 3, none⟩ (.int .i64 (gl B.lots k).bars)).setCell ⟨g, k * 3 + 1, none⟩ (.int .i64 ((gl B.lots k).lo + by_))).setCell ⟨g, k * 3 + 2, none⟩ (.int .i64 ((gl B.lots k).lo + by_))) := by
              have h := HB0.out.below H9.out
              exact ⟨hlx, h.thins, h.looks⟩
            clear hk3 hlo8 hlo9 hlx K10x Kgx Hllx
            generalize (((w8.setCell ⟨g, k * 3, none⟩ (.int .i64 (gl B.lots k).bars)).setCell ⟨g, k * 3 + 1, none⟩ (.int .i64 ((gl B.lots k).lo + by_))).setCell ⟨g, k * 3 + 2, none⟩ (.int .i64 ((gl B.lots k).lo + by_))) = w9 at *
            obtain ⟨c10, f10, l10⟩ := k11
            have HX := Lib.hid hX
            have gX := hE.1
            have hmt := fun h => easier_melt Hg.out gX hE.2 (m := V) h
            rw [HWas.out] at hmt
            clear hX hE
            have HMx := Lib.hid (HM0.out.below H9.out)
            go_wp2_with fail
            refine (eq0_2 (v' := (easyB B (some ⟨g, 0, none⟩) c8 (B.lots.set k ⟨(gl B.lots k).bars, ((gl B.lots k).lo + by_), ((gl B.lots k).lo + by_)⟩) B.tlo B.thi).val) (by unfold ForgeV.val; rw [easyS_cells]) (IsMelt_calls (easyB B (some ⟨g, 0, none⟩) c8 (B.lots.set k ⟨(gl B.lots k).bars, ((gl B.lots k).lo + by_), ((gl B.lots k).lo + by_)⟩) B.tlo B.thi) A7 c7 V _ HX.out Hl9.out HMx.out)).mono ?_
            rintro e w12 ⟨rfl, hb⟩
            rw [isMelt_good gX]
            have H12 := Lib.hid (below_then H9.out H9.out.size hb)
            clear hb gX HX
            generalize (withinS (easyB B (some ⟨g, 0, none⟩) c8 (B.lots.set k ⟨(gl B.lots k).bars, ((gl B.lots k).lo + by_), ((gl B.lots k).lo + by_)⟩) B.tlo B.thi) V && rightS (easyB B (some ⟨g, 0, none⟩) c8 (B.lots.set k ⟨(gl B.lots k).bars, ((gl B.lots k).lo + by_), ((gl B.lots k).lo + by_)⟩) B.tlo B.thi) V) = is_ at *
            cases was with
            | false =>
              clear hmt
              go_wp2_with fail
              refine (works_calls _ (HM0.out.below H12.out)).mono ?_
              rintro e w13 ⟨rfl, hb⟩
              go_wp2
              go_ret
              exact ⟨rfl, below_then H12.out H12.out.size hb⟩
            | true =>
              have his := hmt rfl
              rw [his]
              clear hmt his
              go_wp2_with fail
              refine (works_calls _ (HM0.out.below H12.out)).mono ?_
              rintro e w13 ⟨rfl, hb⟩
              go_wp2
              go_ret
              exact ⟨rfl, below_then H12.out H12.out.size hb⟩

      · have m2 : ¬ (gl B.lots k).hi < (gl B.lots k).hi - by_ := by omega
        · as_aux_lemma =>
            go_upto_region 15 with (fail)
            obtain ⟨c10, f10, l10⟩ := K10.out
            refine region_plain (S := fun w' => Below w7.heap.size w7 w') 16 (by kernel_rfl) ?_ (fun hHeld => ?_)
            · exact (Below.refl _ _).drew
            first | (refine anyT_take 0 (some 91) (v := ?_) rfl rfl (by kernel_rfl) (by kernel_rfl) (by kernel_rfl) (by kernel_rfl) (fun _ _ _ h => h) (Or.inl ⟨by rfl, ?_⟩) hHeld ?_; rotate_left; focus (intro wq hSw; obtain ⟨hcq, hfq⟩ := bcell hSw; go_simp; (try with_reducible rfl); done))
            (try simp only [Act.put, List.setIfInBounds_toArray, List.set_cons_zero, List.set_cons_succ])
            first | (refine anyT_take 1 (some 92) (v := ?_) rfl rfl (by kernel_rfl) (by kernel_rfl) (by kernel_rfl) (by kernel_rfl) (fun _ _ _ h => h) (Or.inl ⟨by rfl, ?_⟩) hHeld ?_; rotate_left; focus (intro wq hSw; obtain ⟨hcq, hfq⟩ := bcell hSw; go_simp; (try with_reducible rfl); done))
            (try simp only [Act.put, List.setIfInBounds_toArray, List.set_cons_zero, List.set_cons_succ])
            first | (refine anyT_take 2 (some 93) (v := ?_) rfl rfl (by kernel_rfl) (by kernel_rfl) (by kernel_rfl) (by kernel_rfl) (fun _ _ _ h => h) (Or.inl ⟨by rfl, ?_⟩) hHeld ?_; rotate_left; focus (intro wq hSw; obtain ⟨hcq, hfq⟩ := bcell hSw; go_simp; (try with_reducible rfl); done))
            (try simp only [Act.put, List.setIfInBounds_toArray, List.set_cons_zero, List.set_cons_succ])
            first | (refine anyT_take 3 (some 94) (v := ?_) rfl rfl (by kernel_rfl) (by kernel_rfl) (by kernel_rfl) (by kernel_rfl) (fun _ _ _ h => h) (Or.inl ⟨by rfl, ?_⟩) hHeld ?_; rotate_left; focus (intro wq hSw; obtain ⟨hcq, hfq⟩ := bcell hSw; go_simp; (try with_reducible rfl); done))
            (try simp only [Act.put, List.setIfInBounds_toArray, List.set_cons_zero, List.set_cons_succ])
            first | (refine anyT_take 4 (some 95) (v := ?_) rfl rfl (by kernel_rfl) (by kernel_rfl) (by kernel_rfl) (by kernel_rfl) (fun _ _ _ h => h) (Or.inl ⟨by rfl, ?_⟩) hHeld ?_; rotate_left; focus (intro wq hSw; obtain ⟨hcq, hfq⟩ := bcell hSw; go_simp; (try with_reducible rfl); done))
            (try simp only [Act.put, List.setIfInBounds_toArray, List.set_cons_zero, List.set_cons_succ])
            first | (refine anyT_take 5 (some 96) (v := ?_) rfl rfl (by kernel_rfl) (by kernel_rfl) (by kernel_rfl) (by kernel_rfl) (fun _ _ _ h => h) (Or.inl ⟨by rfl, ?_⟩) hHeld ?_; rotate_left; focus (intro wq hSw; obtain ⟨hcq, hfq⟩ := bcell hSw; go_simp; (try with_reducible rfl); done))
            (try simp only [Act.put, List.setIfInBounds_toArray, List.set_cons_zero, List.set_cons_succ])
            first | (refine anyT_take 6 (some 97) (v := ?_) rfl rfl (by kernel_rfl) (by kernel_rfl) (by kernel_rfl) (by kernel_rfl) (fun _ _ _ h => h) (Or.inl ⟨by rfl, ?_⟩) hHeld ?_; rotate_left; focus (intro wq hSw; obtain ⟨hcq, hfq⟩ := bcell hSw; go_simp; (try with_reducible rfl); done))
            (try simp only [Act.put, List.setIfInBounds_toArray, List.set_cons_zero, List.set_cons_succ])
            first | (refine anyT_take 7 (some 98) (v := ?_) rfl rfl (by kernel_rfl) (by kernel_rfl) (by kernel_rfl) (by kernel_rfl) (fun _ _ _ h => h) (Or.inl ⟨by rfl, ?_⟩) hHeld ?_; rotate_left; focus (intro wq hSw; obtain ⟨hcq, hfq⟩ := bcell hSw; go_simp; (try with_reducible rfl); done))
            (try simp only [Act.put, List.setIfInBounds_toArray, List.set_cons_zero, List.set_cons_succ])
            first | (refine anyT_take 8 (some 99) (v := ?_) rfl rfl (by kernel_rfl) (by kernel_rfl) (by kernel_rfl) (by kernel_rfl) (fun _ _ _ h => h) (Or.inl ⟨by rfl, ?_⟩) hHeld ?_; rotate_left; focus (intro wq hSw; obtain ⟨hcq, hfq⟩ := bcell hSw; go_simp; (try with_reducible rfl); done))
            (try simp only [Act.put, List.setIfInBounds_toArray, List.set_cons_zero, List.set_cons_succ])
            first | (refine anyT_take 9 (some 100) (v := ?_) rfl rfl (by kernel_rfl) (by kernel_rfl) (by kernel_rfl) (by kernel_rfl) (fun _ _ _ h => h) (Or.inl ⟨by rfl, ?_⟩) hHeld ?_; rotate_left; focus (intro wq hSw; obtain ⟨hcq, hfq⟩ := bcell hSw; go_simp; (try with_reducible rfl); done))
            (try simp only [Act.put, List.setIfInBounds_toArray, List.set_cons_zero, List.set_cons_succ])
            first | (refine anyT_take 10 (some 101) (v := ?_) rfl rfl (by kernel_rfl) (by kernel_rfl) (by kernel_rfl) (by kernel_rfl) (fun _ _ _ h => h) (Or.inl ⟨by rfl, ?_⟩) hHeld ?_; rotate_left; focus (intro wq hSw; obtain ⟨hcq, hfq⟩ := bcell hSw; go_simp; (try with_reducible rfl); done))
            (try simp only [Act.put, List.setIfInBounds_toArray, List.set_cons_zero, List.set_cons_succ])
            first | (refine anyT_take 11 (some 102) (v := ?_) rfl rfl (by kernel_rfl) (by kernel_rfl) (by kernel_rfl) (by kernel_rfl) (fun _ _ _ h => h) (Or.inl ⟨by rfl, ?_⟩) hHeld ?_; rotate_left; focus (intro wq hSw; obtain ⟨hcq, hfq⟩ := bcell hSw; go_simp; (try with_reducible rfl); done))
            (try simp only [Act.put, List.setIfInBounds_toArray, List.set_cons_zero, List.set_cons_succ])
            first | (refine anyT_take 12 (some 103) (v := ?_) rfl rfl (by kernel_rfl) (by kernel_rfl) (by kernel_rfl) (by kernel_rfl) (fun _ _ _ h => h) (Or.inl ⟨by rfl, ?_⟩) hHeld ?_; rotate_left; focus (intro wq hSw; obtain ⟨hcq, hfq⟩ := bcell hSw; go_simp; (try with_reducible rfl); done))
            (try simp only [Act.put, List.setIfInBounds_toArray, List.set_cons_zero, List.set_cons_succ])
            refine anyT_one 13 (by kernel_rfl) rfl (fun K hK => ?_)
            go_simp
            refine (Band_calls _ _ _).mono ?_; rintro e w8 ⟨rfl, hb⟩
            refine hK.out _ _ ?_ (fun hHeld => ?_)
            · exact below_then hHeld hHeld.size hb
            clear hK K
            (try simp only [Act.put, List.setIfInBounds_toArray, List.set_cons_zero, List.set_cons_succ])
            first | (refine anyT_take 14 (some 105) (v := ?_) rfl rfl (by kernel_rfl) (by kernel_rfl) (by kernel_rfl) (by kernel_rfl) (fun _ _ _ h => h) (Or.inl ⟨by rfl, ?_⟩) hHeld ?_; rotate_left; focus (intro wq hSw; obtain ⟨hcq, hfq⟩ := bcell hSw; go_simp; (try with_reducible rfl); done))
            (try simp only [Act.put, List.setIfInBounds_toArray, List.set_cons_zero, List.set_cons_succ])
            first | (refine anyT_take 15 (some 106) (v := ?_) rfl rfl (by kernel_rfl) (by kernel_rfl) (by kernel_rfl) (by kernel_rfl) (fun _ _ _ h => h) (Or.inl ⟨by rfl, ?_⟩) hHeld ?_; rotate_left; focus (intro wq hSw; obtain ⟨hcq, hfq⟩ := bcell hSw; go_simp; (try with_reducible rfl); done))
            (try simp only [Act.put, List.setIfInBounds_toArray, List.set_cons_zero, List.set_cons_succ])
            refine anyT_last (by kernel_rfl) rfl (fun K hK => ?_)
            have fg := (Kg.out.below hHeld).frozen; have hpg := (Hll.out.below hHeld).at_ hkl; rw [Nat.zero_add] at hpg; obtain ⟨q0, q1, q2⟩ := hpg
            go_simp
            refine hK.out _ _ ?_
            clear hK K
            (try simp only [Act.put, List.setIfInBounds_toArray, List.set_cons_zero, List.set_cons_succ])
            refine anyT_done (by kernel_rfl) ?_ _
            have hlo8 := Hlo7.out.trans (hHeld.mono (by omega))
            have K10x := K10.out.below hHeld
            have Kgx := Kg.out.below hHeld
            have Hllx := Hll.out.below hHeld
            clear hHeld hb q0 q1 q2 fg c13 f13 l13 c10 f10 l10
            go_upto_region 16 with (fail)
            (try rw [if_neg (show ¬ ((gl B.lots k).lo + by_ < (gl B.lots k).hi - by_) by omega)])
            (try rw [if_neg (show ¬ ((gl B.lots k).hi < (gl B.lots k).hi - by_) by omega)])
            have hk3 : Keep (fun q => q = g) w8 (((w8.setCell ⟨g, k * 3, none⟩ (.int .i64 (gl B.lots k).bars)).setCell ⟨g, k * 3 + 1, none⟩ (.int .i64 (gl B.lots k).hi)).setCell ⟨g, k * 3 + 2, none⟩ (.int .i64 (gl B.lots k).hi)) := Keep.setCell (M := fun q => q = g) (Keep.setCell (M := fun q => q = g) (Keep.setCell (M := fun q => q = g) (Keep.refl _ _) (p := ⟨g, k * 3, none⟩) (.inl rfl) _) (p := ⟨g, k * 3 + 1, none⟩) (.inl rfl) _) (p := ⟨g, k * 3 + 2, none⟩) (.inl rfl) _
            have hlo9 := hlo8.trans (hk3.below (n := n10) (fun q _ e => by omega) (by have := K10x.lt; omega))
            have k11 := K10x.keep hk3 (by omega)
            have hlx := lots_put Kgx Hllx hkl ((gl B.lots k).bars) ((gl B.lots k).hi) ((gl B.lots k).hi)
            have H9 := Lib.hid (H5.out.trans (hlo9.mono hn10))
            have Hl9 := Lib.hid (Hl7.out.below (show Below w5.heap.size w5 (((w8.setCell ⟨g, k * 3, none⟩ (.int .i64 (gl B.lots k).bars)).setCell ⟨g, k * 3 + 1, none⟩ (.int .i64 (gl B.lots k).hi)).setCell ⟨g, k * 3 + 2, none⟩ (.int .i64 (gl B.lots k).hi)) by rw [Hne.out]; exact hlo9))
            have hE := easy1 Hg.out (some ⟨g, 0, none⟩) c8 hkl (b := (gl B.lots k).bars) (lo := (gl B.lots k).hi) (hi := (gl B.lots k).hi) (by have := Hg.out.lot k hkl; omega) (by have := Hg.out.lot k hkl; omega)
            have hX : (easyB B (some ⟨g, 0, none⟩) c8 (B.lots.set k ⟨(gl B.lots k).bars, (gl B.lots k).hi, (gl B.lots k).hi⟩) B.tlo B.thi).Reads (((w8.setCell ⟨g, k * 3, none⟩ (.int .i64 (gl B.lots k).bars)).setCell ⟨g, k * 3 + 1, none⟩ (.int .i64 (gl B.lots k).hi)).setCell ⟨g, k * 3 + 2, none⟩ (.int .i64 (gl B.lots k).hi)) := by
              have h := HB0.out.below H9.out
              exact ⟨hlx, h.thins, h.looks⟩
            clear hk3 hlo8 hlo9 hlx K10x Kgx Hllx
            generalize (((w8.setCell ⟨g, k * 3, none⟩ (.int .i64 (gl B.lots k).bars)).setCell ⟨g, k * 3 + 1, none⟩ (.int .i64 (gl B.lots k).hi)).setCell ⟨g, k * 3 + 2, none⟩ (.int .i64 (gl B.lots k).hi)) = w9 at *
            obtain ⟨c10, f10, l10⟩ := k11
            have HX := Lib.hid hX
            have gX := hE.1
            have hmt := fun h => easier_melt Hg.out gX hE.2 (m := V) h
            rw [HWas.out] at hmt
            clear hX hE
            have HMx := Lib.hid (HM0.out.below H9.out)
            go_wp2_with fail
            refine (eq0_2 (v' := (easyB B (some ⟨g, 0, none⟩) c8 (B.lots.set k ⟨(gl B.lots k).bars, (gl B.lots k).hi, (gl B.lots k).hi⟩) B.tlo B.thi).val) (by unfold ForgeV.val; rw [easyS_cells]) (IsMelt_calls (easyB B (some ⟨g, 0, none⟩) c8 (B.lots.set k ⟨(gl B.lots k).bars, (gl B.lots k).hi, (gl B.lots k).hi⟩) B.tlo B.thi) A7 c7 V _ HX.out Hl9.out HMx.out)).mono ?_
            rintro e w12 ⟨rfl, hb⟩
            rw [isMelt_good gX]
            have H12 := Lib.hid (below_then H9.out H9.out.size hb)
            clear hb gX HX
            generalize (withinS (easyB B (some ⟨g, 0, none⟩) c8 (B.lots.set k ⟨(gl B.lots k).bars, (gl B.lots k).hi, (gl B.lots k).hi⟩) B.tlo B.thi) V && rightS (easyB B (some ⟨g, 0, none⟩) c8 (B.lots.set k ⟨(gl B.lots k).bars, (gl B.lots k).hi, (gl B.lots k).hi⟩) B.tlo B.thi) V) = is_ at *
            cases was with
            | false =>
              clear hmt
              go_wp2_with fail
              refine (works_calls _ (HM0.out.below H12.out)).mono ?_
              rintro e w13 ⟨rfl, hb⟩
              go_wp2
              go_ret
              exact ⟨rfl, below_then H12.out H12.out.size hb⟩
            | true =>
              have his := hmt rfl
              rw [his]
              clear hmt his
              go_wp2_with fail
              refine (works_calls _ (HM0.out.below H12.out)).mono ?_
              rintro e w13 ⟨rfl, hb⟩
              go_wp2
              go_ret
              exact ⟨rfl, below_then H12.out H12.out.size hb⟩

    · obtain ⟨c13, f13, l13⟩ := K13.out
      obtain ⟨c10, f10, l10⟩ := K10.out
      have hw1 : IntKind.i64.wrap ((gl B.lots k).bars + 1) = (gl B.lots k).bars + 1 := wrap_in (by omega) (by omega)
      have fg := Kg.out.frozen
      have hpg := Hll.out.at_ hkl
      rw [Nat.zero_add] at hpg
      obtain ⟨q0, q1, q2⟩ := hpg
      rcases Int.lt_or_le ((gl B.lots k).bars + 1) 6 with m1 | m1
      · as_aux_lemma =>
          go_upto_region 16 with (fail)
          have hlo8 := Hlo7.out
          have K10x := K10.out
          have Kgx := Kg.out
          have Hllx := Hll.out
          clear q0 q1 q2 fg c13 f13 l13 c10 f10 l10
          generalize w7 = w8 at *
          have hk3 : Keep (fun q => q = g) w8 (((w8.setCell ⟨g, k * 3, none⟩ (.int .i64 ((gl B.lots k).bars + 1))).setCell ⟨g, k * 3 + 1, none⟩ (.int .i64 (gl B.lots k).lo)).setCell ⟨g, k * 3 + 2, none⟩ (.int .i64 (gl B.lots k).hi)) := Keep.setCell (M := fun q => q = g) (Keep.setCell (M := fun q => q = g) (Keep.setCell (M := fun q => q = g) (Keep.refl _ _) (p := ⟨g, k * 3, none⟩) (.inl rfl) _) (p := ⟨g, k * 3 + 1, none⟩) (.inl rfl) _) (p := ⟨g, k * 3 + 2, none⟩) (.inl rfl) _
          have hlo9 := hlo8.trans (hk3.below (n := n10) (fun q _ e => by omega) (by have := K10x.lt; omega))
          have k11 := K10x.keep hk3 (by omega)
          have hlx := lots_put Kgx Hllx hkl (((gl B.lots k).bars + 1)) ((gl B.lots k).lo) ((gl B.lots k).hi)
          have H9 := Lib.hid (H5.out.trans (hlo9.mono hn10))
          have Hl9 := Lib.hid (Hl7.out.below (show Below w5.heap.size w5 (((w8.setCell ⟨g, k * 3, none⟩ (.int .i64 ((gl B.lots k).bars + 1))).setCell ⟨g, k * 3 + 1, none⟩ (.int .i64 (gl B.lots k).lo)).setCell ⟨g, k * 3 + 2, none⟩ (.int .i64 (gl B.lots k).hi)) by rw [Hne.out]; exact hlo9))
          have hE := easy1 Hg.out (some ⟨g, 0, none⟩) c8 hkl (b := ((gl B.lots k).bars + 1)) (lo := (gl B.lots k).lo) (hi := (gl B.lots k).hi) (by have := Hg.out.lot k hkl; omega) (by have := Hg.out.lot k hkl; omega)
          have hX : (easyB B (some ⟨g, 0, none⟩) c8 (B.lots.set k ⟨((gl B.lots k).bars + 1), (gl B.lots k).lo, (gl B.lots k).hi⟩) B.tlo B.thi).Reads (((w8.setCell ⟨g, k * 3, none⟩ (.int .i64 ((gl B.lots k).bars + 1))).setCell ⟨g, k * 3 + 1, none⟩ (.int .i64 (gl B.lots k).lo)).setCell ⟨g, k * 3 + 2, none⟩ (.int .i64 (gl B.lots k).hi)) := by
            have h := HB0.out.below H9.out
            exact ⟨hlx, h.thins, h.looks⟩
          clear hk3 hlo8 hlo9 hlx K10x Kgx Hllx
          generalize (((w8.setCell ⟨g, k * 3, none⟩ (.int .i64 ((gl B.lots k).bars + 1))).setCell ⟨g, k * 3 + 1, none⟩ (.int .i64 (gl B.lots k).lo)).setCell ⟨g, k * 3 + 2, none⟩ (.int .i64 (gl B.lots k).hi)) = w9 at *
          obtain ⟨c10, f10, l10⟩ := k11
          have HX := Lib.hid hX
          have gX := hE.1
          have hmt := fun h => easier_melt Hg.out gX hE.2 (m := V) h
          rw [HWas.out] at hmt
          clear hX hE
          have HMx := Lib.hid (HM0.out.below H9.out)
          go_wp2_with fail
          refine (eq0_2 (v' := (easyB B (some ⟨g, 0, none⟩) c8 (B.lots.set k ⟨((gl B.lots k).bars + 1), (gl B.lots k).lo, (gl B.lots k).hi⟩) B.tlo B.thi).val) (by unfold ForgeV.val; rw [easyS_cells]) (IsMelt_calls (easyB B (some ⟨g, 0, none⟩) c8 (B.lots.set k ⟨((gl B.lots k).bars + 1), (gl B.lots k).lo, (gl B.lots k).hi⟩) B.tlo B.thi) A7 c7 V _ HX.out Hl9.out HMx.out)).mono ?_
          rintro e w12 ⟨rfl, hb⟩
          rw [isMelt_good gX]
          have H12 := Lib.hid (below_then H9.out H9.out.size hb)
          clear hb gX HX
          generalize (withinS (easyB B (some ⟨g, 0, none⟩) c8 (B.lots.set k ⟨((gl B.lots k).bars + 1), (gl B.lots k).lo, (gl B.lots k).hi⟩) B.tlo B.thi) V && rightS (easyB B (some ⟨g, 0, none⟩) c8 (B.lots.set k ⟨((gl B.lots k).bars + 1), (gl B.lots k).lo, (gl B.lots k).hi⟩) B.tlo B.thi) V) = is_ at *
          cases was with
          | false =>
            clear hmt
            go_wp2_with fail
            refine (works_calls _ (HM0.out.below H12.out)).mono ?_
            rintro e w13 ⟨rfl, hb⟩
            go_wp2
            go_ret
            exact ⟨rfl, below_then H12.out H12.out.size hb⟩
          | true =>
            have his := hmt rfl
            rw [his]
            clear hmt his
            go_wp2_with fail
            refine (works_calls _ (HM0.out.below H12.out)).mono ?_
            rintro e w13 ⟨rfl, hb⟩
            go_wp2
            go_ret
            exact ⟨rfl, below_then H12.out H12.out.size hb⟩

      · as_aux_lemma =>
          go_upto_region 16 with (fail)
          have hlo8 := Hlo7.out
          have K10x := K10.out
          have Kgx := Kg.out
          have Hllx := Hll.out
          clear q0 q1 q2 fg c13 f13 l13 c10 f10 l10
          generalize w7 = w8 at *
          have hk3 : Keep (fun q => q = g) w8 (((w8.setCell ⟨g, k * 3, none⟩ (.int .i64 6)).setCell ⟨g, k * 3 + 1, none⟩ (.int .i64 (gl B.lots k).lo)).setCell ⟨g, k * 3 + 2, none⟩ (.int .i64 (gl B.lots k).hi)) := Keep.setCell (M := fun q => q = g) (Keep.setCell (M := fun q => q = g) (Keep.setCell (M := fun q => q = g) (Keep.refl _ _) (p := ⟨g, k * 3, none⟩) (.inl rfl) _) (p := ⟨g, k * 3 + 1, none⟩) (.inl rfl) _) (p := ⟨g, k * 3 + 2, none⟩) (.inl rfl) _
          have hlo9 := hlo8.trans (hk3.below (n := n10) (fun q _ e => by omega) (by have := K10x.lt; omega))
          have k11 := K10x.keep hk3 (by omega)
          have hlx := lots_put Kgx Hllx hkl (6) ((gl B.lots k).lo) ((gl B.lots k).hi)
          have H9 := Lib.hid (H5.out.trans (hlo9.mono hn10))
          have Hl9 := Lib.hid (Hl7.out.below (show Below w5.heap.size w5 (((w8.setCell ⟨g, k * 3, none⟩ (.int .i64 6)).setCell ⟨g, k * 3 + 1, none⟩ (.int .i64 (gl B.lots k).lo)).setCell ⟨g, k * 3 + 2, none⟩ (.int .i64 (gl B.lots k).hi)) by rw [Hne.out]; exact hlo9))
          have hE := easy1 Hg.out (some ⟨g, 0, none⟩) c8 hkl (b := 6) (lo := (gl B.lots k).lo) (hi := (gl B.lots k).hi) (by have := Hg.out.lot k hkl; omega) (by have := Hg.out.lot k hkl; omega)
          have hX : (easyB B (some ⟨g, 0, none⟩) c8 (B.lots.set k ⟨6, (gl B.lots k).lo, (gl B.lots k).hi⟩) B.tlo B.thi).Reads (((w8.setCell ⟨g, k * 3, none⟩ (.int .i64 6)).setCell ⟨g, k * 3 + 1, none⟩ (.int .i64 (gl B.lots k).lo)).setCell ⟨g, k * 3 + 2, none⟩ (.int .i64 (gl B.lots k).hi)) := by
            have h := HB0.out.below H9.out
            exact ⟨hlx, h.thins, h.looks⟩
          clear hk3 hlo8 hlo9 hlx K10x Kgx Hllx
          generalize (((w8.setCell ⟨g, k * 3, none⟩ (.int .i64 6)).setCell ⟨g, k * 3 + 1, none⟩ (.int .i64 (gl B.lots k).lo)).setCell ⟨g, k * 3 + 2, none⟩ (.int .i64 (gl B.lots k).hi)) = w9 at *
          obtain ⟨c10, f10, l10⟩ := k11
          have HX := Lib.hid hX
          have gX := hE.1
          have hmt := fun h => easier_melt Hg.out gX hE.2 (m := V) h
          rw [HWas.out] at hmt
          clear hX hE
          have HMx := Lib.hid (HM0.out.below H9.out)
          go_wp2_with fail
          refine (eq0_2 (v' := (easyB B (some ⟨g, 0, none⟩) c8 (B.lots.set k ⟨6, (gl B.lots k).lo, (gl B.lots k).hi⟩) B.tlo B.thi).val) (by unfold ForgeV.val; rw [easyS_cells]) (IsMelt_calls (easyB B (some ⟨g, 0, none⟩) c8 (B.lots.set k ⟨6, (gl B.lots k).lo, (gl B.lots k).hi⟩) B.tlo B.thi) A7 c7 V _ HX.out Hl9.out HMx.out)).mono ?_
          rintro e w12 ⟨rfl, hb⟩
          rw [isMelt_good gX]
          have H12 := Lib.hid (below_then H9.out H9.out.size hb)
          clear hb gX HX
          generalize (withinS (easyB B (some ⟨g, 0, none⟩) c8 (B.lots.set k ⟨6, (gl B.lots k).lo, (gl B.lots k).hi⟩) B.tlo B.thi) V && rightS (easyB B (some ⟨g, 0, none⟩) c8 (B.lots.set k ⟨6, (gl B.lots k).lo, (gl B.lots k).hi⟩) B.tlo B.thi) V) = is_ at *
          cases was with
          | false =>
            clear hmt
            go_wp2_with fail
            refine (works_calls _ (HM0.out.below H12.out)).mono ?_
            rintro e w13 ⟨rfl, hb⟩
            go_wp2
            go_ret
            exact ⟨rfl, below_then H12.out H12.out.size hb⟩
          | true =>
            have his := hmt rfl
            rw [his]
            clear hmt his
            go_wp2_with fail
            refine (works_calls _ (HM0.out.below H12.out)).mono ?_
            rintro e w13 ⟨rfl, hb⟩
            go_wp2
            go_ret
            exact ⟨rfl, below_then H12.out H12.out.size hb⟩

end
end Go.Proofs.YtgfbfbfajnfbjaaDoor
